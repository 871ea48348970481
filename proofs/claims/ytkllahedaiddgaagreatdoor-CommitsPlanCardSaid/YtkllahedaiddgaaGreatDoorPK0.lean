/- commits.Plan: its run for each pattern of dirty groups. No condition. -/
import Derived.Test.YtkllahedaiddgaaGreatDoorPC0
set_option linter.unusedSimpArgs false
set_option linter.unusedVariables false
set_option maxRecDepth 100000
namespace Go.K
open Go.Ab Go.RowKit Go.Y Go.Proofs
noncomputable section
attribute [local instance 10000] gO
noncomputable def zwY (P:List KV→Prop) (κ:List KV→Nat) (W:Nat→Wd):zf:=fun l K=>P l∧K (W (κ l)).k
noncomputable def zwZ (t:KV) (n:Nat) (T:Nat→Nat):zf:=fun l K=>la2 l fun a b=>z9 b fun i=>[a]=[t]∧cnd (Nat.blt i n) (K (zlD (T i)))
noncomputable def zw0:zf:=fun l K=>la3 l fun a b c=>z9 a fun n=>z9 b fun i=>z9 c fun s=>cnd (nd (zD n) (nd (Nat.blt i n) (Nat.ble s 1))) (K (zwc (Xy i s)))
noncomputable def cAb (nd:Nat→Nd) (sl:Nat→Nat) (di:Nat→Bool) (ch:Nat→Nat→Bool) (k:Nat):Un:=⟨nd k,.ofNat (sl k),di k,ch k⟩
noncomputable def E19 (P:List KV→Prop) (κ:List KV→Nat) (W:Nat→Wd) (t:KV) (n:Nat) (T:Nat→Nat):KEnv:={ (EO0.tab [(94,va [t] (nI 0)),(95,zwZ t n T),(96,zw0)]).tabB [(97,zwY P κ W)] with sc:=true }
noncomputable def l19:List Code:=fl (cOf 19)
noncomputable def d19 (n:Nat) (P:List KV→Prop) (κ:List KV→Nat) (W:Nat→Wd) (T:Nat→Nat) (nd:Nat→Nd) (sl:Nat→Nat) (di:Nat→Bool) (ch:Nat→Nat→Bool) (li:List Nat) (Q:QT) (R:RT):Prop:=pc (E19 P κ W (trK n (zi n) (cAb nd sl di ch)) n T) 19 l19 [] li (xd (mOf 19) 0 [trK n (zi n) (cAb nd sl di ch)],[],0) Q R
noncomputable def zw1 (t:KV) (n:Nat) (T:Nat→Nat):zf:=fun l K=>la2 l fun a b=>z9 b fun i=>[a]=[t]∧cnd (Nat.blt i n) (K (nI (T i)))
noncomputable def zw2:zf:=fun l K=>la2 l fun b c=>z9 b fun i=>z9 c fun s=>cnd (nd (Nat.blt i 24) (Nat.ble s 1)) (K (nI (Xy i s)))
noncomputable def zw3:zf:=fun l K=>la3 l fun a b c=>z9 a fun n=>z9 b fun i=>z9 c fun j=>cnd (nd (zD n) (nd (Nat.ble i 2) (Nat.blt j 4294967296))) (K (nI (zh n i j)))
noncomputable def zw4:zf:=fun l K=>la4 l fun a b c d=>z9 a fun n=>z9 b fun i=>z9 c fun j=>z9 d fun s=>cnd (nd (zD n) (nd (isS n i j) (Nat.ble s 1))) (K (nI (qA n i j s)))
noncomputable def E21 (t:KV) (n:Nat) (T:Nat→Nat):KEnv:={ EO0.tab [(28,ziR),(81,za2),(82,zw3),(36,zw1 t n T),(35,zw2),(27,zw4)] with sc:=true }
noncomputable def l21:List Code:=fl (cOf 21)
noncomputable def d21 (n:Nat) (T:Nat→Nat) (u:Ud) (li:List Nat) (Q:QT) (R:RT):Prop:=pc (E21 (uK n (zi n) u) n T) 21 l21 [] li (xd (mOf 21) 0 [uK n (zi n) u],[],0) Q R
noncomputable def chF (n:Nat) (g:Nat→Prop→Prop) (q:Prop):Prop:=@Nat.rec (fun _=>Nat→Prop) (fun _=>q) (fun _ ih i=>g i (ih (Nat.succ i))) n 0
noncomputable def g19 (t:KV) (T:Nat→Nat) (i:Nat) (q:Prop):Prop:=[t]=[t]∧cnd (Nat.ble (T i) 1) (cnd (b63 (Nat.sub 1 (T i))) (cnd (Nat.ble (Nat.sub 1 (T i)) 1) q))
noncomputable def a19 (n:Nat) (nd:Nat→Nd) (sl:Nat→Nat) (k:Nat):List KV:=[nI n,(nd k).k,nI (sl k)]
noncomputable def h19 (P:List KV→Prop) (n:Nat) (nd:Nat→Nd) (sl:Nat→Nat) (k:Nat) (q:Prop):Prop:=P (a19 n nd sl k)∧q
noncomputable def zHM (κ:List KV→Nat) (W:Nat→Wd) (n:Nat) (T:Nat→Nat) (nd:Nat→Nd) (sl:Nat→Nat) (i:Nat):KV:=nI (@Bool.rec (fun _=>Nat) (W (κ (a19 n nd sl (Nat.sub i n)))).sc (Xy i (Nat.sub 1 (T i))) (Nat.blt i n))
noncomputable def QV (N:Nat) (f:Nat→KV):KBlk:=⟨.row 3,.arr N .sc,kAr N (nI 0) f⟩
noncomputable def vZ (n:Nat):Nat:=Nat.add (Nat.mul 2 (Nat.add n (zi n))) (zi n)
noncomputable def v19 (n:Nat):KV:=.tup (.cons (.sl (vZ n) [] .sc 0 (Nat.add n (zi n)) (some (Nat.add n (zi n)))) (.cons (nI 0) .nl))
noncomputable def q19 (n:Nat) (P:List KV→Prop) (κ:List KV→Nat) (W:Nat→Wd) (T:Nat→Nat) (nd:Nat→Nd) (sl:Nat→Nat) (t:KV) (R:RT):Prop:=[t]=[t]∧chF n (g19 t T) (chF (zi n) (h19 P n nd sl) (R (v19 n) [some (QV (Nat.add n (zi n)) (zHM κ W n T nd sl))] (Nat.succ (vZ n))))
def P19 (n:Nat):Prop:=∀(P:List KV→Prop) (κ:List KV→Nat) (W:Nat→Wd) (T:Nat→Nat) (nd:Nat→Nd) (sl:Nat→Nat) (di:Nat→Bool) (ch:Nat→Nat→Bool) (Q:QT) (R:RT),d19 n P κ W T nd sl di ch [vZ n] Q R=q19 n P κ W T nd sl (trK n (zi n) (cAb nd sl di ch)) R
noncomputable def h21 (u:Ud) (k:Nat) (q:Prop):Prop:=cnd (Nat.ble (u.sl k) 1) q
noncomputable def zHN (n:Nat) (T:Nat→Nat) (u:Ud) (i:Nat):KV:=nI (@Bool.rec (fun _=>Nat) (qA n (lvI n (Nat.sub i n)) (ixI n (Nat.sub i n)) (u.sl (Nat.sub i n))) (Xy i (Nat.sub 1 (T i))) (Nat.blt i n))
noncomputable def v4 (n:Nat):Nat:=Nat.mul 2 (Nat.add n (zi n))
noncomputable def q21 (n:Nat) (T:Nat→Nat) (u:Ud) (R:RT):Prop:=chF n (g19 (uK n (zi n) u) T) (chF (zi n) (h21 u) (R (.row (v4 n) .sc (Nat.add n (zi n))) [some (QV (Nat.add n (zi n)) (zHN n T u))] (Nat.succ (v4 n))))
def P21 (n:Nat):Prop:=∀(T:Nat→Nat) (u:Ud) (Q:QT) (R:RT),d21 n T u [v4 n] Q R=q21 n T u R
noncomputable def gS (m:Nat):Nat:=@Bool.rec (fun _=>Nat) (@Bool.rec (fun _=>Nat) (Nat.sub m 1) 1 (Nat.beq m 1)) (Nat.sub m 3) (Nat.ble 8 m)
noncomputable def zIv (p k:Nat):Bool:=Nat.beq (Nat.mod (Nat.div p (Nat.pow 2 k)) 2) 1
noncomputable def Yt (b x y:Bool):Bool:=@Bool.rec (fun _=>Bool) y x b
noncomputable def dP (m p k:Nat):Bool:=Yt (Nat.blt k (gS m)) (zIv p k) (Yt (Nat.ble (gS m) 4) (!(Nat.beq p 0)) (Yt (Nat.beq k (gS m)) (!(Nat.beq (Nat.mod p 16) 0)) (Yt (Nat.beq k (Nat.add (gS m) 1)) (!(Nat.beq (Nat.div p 16) 0)) (!(Nat.beq p 0)))))
noncomputable def wL (m p:Nat):List Nat:=@Nat.rec (fun _=>Nat→List Nat) (fun _=>[]) (fun _ ih k=>@Bool.rec (fun _=>List Nat) (ih (Nat.succ k)) (k::ih (Nat.succ k)) (Yt (dP m p k) true (Nat.beq (Nat.succ k) m))) m 0
noncomputable def zEo (l:List Nat):Nat:=@List.rec Nat (fun _=>Nat) 0 (fun _ _ ih=>Nat.succ ih) l
noncomputable def cPt (m p:Nat) (nd:Nat→Nd) (sl:Nat→Nat) (di:Nat→Bool) (ch:Nat→Nat→Bool) (k:Nat):Un:=⟨nd k,.ofNat (sl k),Yt (Nat.blt k m) (dP m p k) (di k),ch k⟩
noncomputable def zEp (D:List Nat):KV:=.tup (.cons (kBy 32 (nN D)) (.cons (nI 0) .nl))
noncomputable def E18 (P:List KV→Prop) (κ:List KV→Nat) (W:Nat→Wd) (t:KV) (D:List Nat):KEnv:={ (EO0.tab [(89,va [t] (zEp D))]).tabB [(97,zwY P κ W)] with sc:=true }
noncomputable def zkq:List Code:=fl (cOf 18)
noncomputable def d18 (m p:Nat) (P:List KV→Prop) (κ:List KV→Nat) (W:Nat→Wd) (D r:List Nat) (n:Nat) (nd:Nat→Nd) (sl:Nat→Nat) (di:Nat→Bool) (ch:Nat→Nat→Bool) (e mk:Nat) (li:List Nat) (Q:QT) (R:RT):Prop:=pc (E18 P κ W (trK n m (cPt m p nd sl di ch)) D) 18 zkq [] li (xd (mOf 18) 0 [trK n m (cPt m p nd sl di ch),Jr r e mk],[],0) Q R
noncomputable def nR (m:Nat):Nat:=Nat.mul 4 (gS m)
noncomputable def t28 (n m:Nat):zf:=fun l K=>l=[nI n]∧K (nI (hS (nR m)))
noncomputable def t81 (n m:Nat):zf:=fun l K=>la2 l fun a b=>z9 b fun l=>cnd (Nat.ble l 2) (a=nI n∧K (nI (zx (nR m) l)))
noncomputable def t82 (n m:Nat):zf:=fun l K=>la3 l fun a b c=>z9 b fun l=>z9 c fun j=>cnd (isS (nR m) l j) (a=nI n∧K (nI (zh (nR m) l j)))
noncomputable def t88 (t:KV) (m p:Nat):zf:=fun l K=>la3 l fun a b c=>z9 b fun l=>z9 c fun j=>cnd (isS (nR m) l j) ([a]=[t]∧K (.bool (dP m p (zh (nR m) l j))))
noncomputable def t27 (n m:Nat) (sl:Nat→Nat) (W:Nat→Wd):zf:=fun l K=>la4 l fun a b c d=>z9 b fun l=>z9 c fun j=>cnd (isS (nR m) l j) ([a,d]=[nI n,nI (Nat.sub 1 (sl (zh (nR m) l j)))]∧K (nI (W (zh (nR m) l j)).sc))
noncomputable def t44 (rs now:KV) (m:Nat) (F:Nat→Nd):zf:=fun l K=>la4 l fun a b c d=>z9 c fun l=>z9 d fun j=>cnd (isS (nR m) l j) ([a,b]=[rs,now]∧K (F (zh (nR m) l j)).k)
noncomputable def t66 (P:List KV→Prop) (κ:List KV→Nat) (W:Nat→Wd):zf:=fun l K=>P l∧K (zcA (Nat.succ (W (κ l)).ln) (W (κ l)).bs)
noncomputable def E24 (P:List KV→Prop) (κ:List KV→Nat) (W:Nat→Wd) (F:Nat→Nd) (n m p:Nat) (u:Ud):KEnv:={ (EO0.tab [(28,t28 n m),(26,va [uK n m u] (jc n m u)),(81,t81 n m),(88,t88 (uK n m u) m p),(82,t82 n m),(27,t27 n m u.sl W),(44,t44 (xU n u.rc) (jc n m u) m F)]).tabB [(66,t66 P κ W)] with sc:=true }
noncomputable def l24:List Code:=fl (cOf 24)
noncomputable def d24 (m p:Nat) (P:List KV→Prop) (κ:List KV→Nat) (W:Nat→Wd) (F:Nat→Nd) (n:Nat) (u:Ud) (li:List Nat) (Q:QT) (R:RT):Prop:=pc (E24 P κ W F n m p u) 24 l24 [] li (xd (mOf 24) 0 [uK n m u],[],0) Q R
noncomputable def wrB (m p k:Nat):Bool:=Yt (dP m p k) true (Nat.beq (Nat.succ k) m)
noncomputable def a18 (n:Nat) (nd:Nat→Nd) (sl:Nat→Nat) (k:Nat):List KV:=[nI n,(nd k).k,nI (Nat.sub 1 (sl k))]
noncomputable def h18 (P:List KV→Prop) (m p n:Nat) (nd:Nat→Nd) (sl:Nat→Nat) (k:Nat) (q:Prop):Prop:=@Bool.rec (fun _=>Prop) q (cnd (Nat.ble (sl k) 1) (cnd (b63 (Nat.sub 1 (sl k))) (P (a18 n nd sl k)∧q))) (wrB m p k)
noncomputable def nW (m p:Nat):Nat:=zEo (wL m p)
noncomputable def zcB (m p:Nat):Nat:=Nat.add (Nat.add 10 m) (Nat.mul 3 (nW m p))
noncomputable def zW:KV:=.cons (nI 0) (.cons .nils .nl)
noncomputable def zR':KV:=.cons (nI 0) (.cons (.str 0 0) .nl)
noncomputable def ztk (m p:Nat) (κ:List KV→Nat) (W:Nat→Wd) (n:Nat) (nd:Nat→Nd) (sl:Nat→Nat):KBlk:=⟨.row 60,.arr (nW m p) shW,kAr (nW m p) zW fun i=>(W (κ (a18 n nd sl (nN (wL m p) i)))).k⟩
noncomputable def zIw (m p:Nat) (D:List Nat) (e mk:Nat):KV:=.tup (.cons (.sl (zcB m p) [] shW 0 (nW m p) (some (nW m p))) (.cons (Jr D (Nat.mod (Nat.add e 1) 18446744073709551616) mk) (.cons (nI 0) .nl)))
noncomputable def zqC (b:Nat):KV:=.tup (.cons .nils (.cons zC3 (.cons (nI b) .nl)))
noncomputable def q18 (m p:Nat) (P:List KV→Prop) (κ:List KV→Nat) (W:Nat→Wd) (D:List Nat) (n:Nat) (nd:Nat→Nd) (sl:Nat→Nat) (e mk:Nat) (t:KV) (R:RT):Prop:=[t]=[t]∧cnd (b63 (e % 2)) (alt (!(eqN (sl (Nat.sub m 1)) (e % 2))) (R (zqC 1) [none] 5) (alt (eqN e 18446744073709551615) (R (zqC 3) [none] 5) (chF m (h18 P m p n nd sl) (R (zIw m p D e mk) [some (ztk m p κ W n nd sl)] (Nat.succ (zcB m p))))))
noncomputable def zIx (P:List KV→Prop) (κ:List KV→Nat) (W:Nat→Wd) (F:Nat→Nd) (n m:Nat) (u:Ud) (k:Nat) (y:Wd) (q:Prop):Prop:=nI n=nI n∧cnd (Nat.ble (u.sl k) 1) (cnd (b63 (Nat.sub 1 (u.sl k))) ([nI n,nI (Nat.sub 1 (u.sl k))]=[nI n,nI (Nat.sub 1 (u.sl k))]∧[xU n u.rc,jc n m u]=[xU n u.rc,jc n m u]∧P [(F k).k]∧cnd (zqD y) q))
noncomputable def zbg (κ:List KV→Nat) (W:Nat→Wd) (F:Nat→Nd) (k:Nat):Wd:=⟨(W k).sc,(W (κ [(F k).k])).ln,(W (κ [(F k).k])).bs⟩
noncomputable def h24 (P:List KV→Prop) (κ:List KV→Nat) (W:Nat→Wd) (F:Nat→Nd) (n m p:Nat) (u:Ud) (k:Nat) (q:Prop):Prop:=nI n=nI n∧[uK n m u]=[uK n m u]∧@Bool.rec (fun _=>Prop) q (zIx P κ W F n m u k (zbg κ W F k) q) (wrB m p k)
noncomputable def ztl (m p:Nat) (κ:List KV→Nat) (W:Nat→Wd) (F:Nat→Nd):KBlk:=⟨.row 214,.arr (nW m p) shW,kAr (nW m p) zR' fun i=>(zbg κ W F (nN (wL m p) i)).r⟩
noncomputable def zkr (m p:Nat):Nat:=Nat.mul 2 (nW m p)
noncomputable def q24 (m p:Nat) (P:List KV→Prop) (κ:List KV→Nat) (W:Nat→Wd) (F:Nat→Nd) (n:Nat) (u:Ud) (R:RT):Prop:=[nI n]=[nI n]∧[uK n m u]=[uK n m u]∧chF (Nat.succ (hS (nR m))) (fun l q=>chF (zx (nR m) l) (fun j q=>h24 P κ W F n m p u (zh (nR m) l j) q) (nI n=nI n∧q)) (R (.row (zkr m p) shW (nW m p)) [some (ztl m p κ W F)] (Nat.succ (zkr m p)))
def P18 (m p:Nat):Prop:=∀(P:List KV→Prop) (κ:List KV→Nat) (W:Nat→Wd) (D r:List Nat) (n:Nat) (nd:Nat→Nd) (sl:Nat→Nat) (di:Nat→Bool) (ch:Nat→Nat→Bool) (e mk:Nat) (Q:QT) (R:RT),d18 m p P κ W D r n nd sl di ch e mk [zcB m p] Q R=q18 m p P κ W D n nd sl e mk (trK n m (cPt m p nd sl di ch)) R
def P24 (m p:Nat):Prop:=∀(P:List KV→Prop) (κ:List KV→Nat) (W:Nat→Wd) (F:Nat→Nd) (n:Nat) (u:Ud) (Q:QT) (R:RT),d24 m p P κ W F n u [zkr m p] Q R=q24 m p P κ W F n u R
end
end Go.K
