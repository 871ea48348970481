/- Sectors of blocks: caissonref12.Data, shapes.Data. No condition. -/
import Derived.Test.YtkllahedaiddgaaGreatDoorTR1_0
import Derived.Test.YtkllahedaiddgaaGreatDoorBY0
set_option linter.unusedSimpArgs false
set_option linter.unusedVariables false
set_option maxRecDepth 100000
namespace Go.K
open Go.Ab Go.RowKit Go.Y Go.Proofs
noncomputable section
attribute [local instance 10000] gO
noncomputable def qA (n l j s:Nat):Nat:=Nat.add (Nat.mul 2 (Nat.add n (zh n l j))) s
noncomputable def r27 (n l j s:Nat):Prop:=zk EO0 (zp EO0 200) 0 27 [nI n,nI l,nI j,nI s] .e 0 0 fun r _ _ _=>tK (kvb r (nI (qA n l j s)))
noncomputable def zeR (q:Bool):Prop:=xT (fun m=>xT (fun l=>xT (fun j=>xT (fun s=>whB (isS (Nat.succ m) l j) (@Bool.rec (fun _=>Prop) True (r27 (Nat.succ m) l j s) q)) 2) 6) 3) 24
theorem zJu:zeR true=zeR false:=by kernel_rfl
theorem zcL {b:Bool}{p:Prop}(h:p):whB b p:=by cases b; exact trivial; exact h
theorem zy4:zeR false:=z6 (fun m=>z6 (fun l=>z6 (fun j=>z6 (fun s=>zcL trivial) 2) 6) 3) 24
noncomputable def zFu:zf:=fun l K=>la4 l fun a b c d=>z9 a fun n=>z9 b fun l=>z9 c fun j=>z9 d fun s=>(zD n=true∧isS n l j=true∧s≤1)∧K (nI (qA n l j s))
theorem Q7:KCS Tryz.prog 27 zFu:=jV ⟨Tryz.f27,Tryz.func27,by kernel_rfl,by kernel_rfl⟩ fun l K hs=>by
 obtain⟨a,b,c,d,rfl,h1⟩:=QU hs
 obtain⟨n,rfl,h2⟩:=zu h1
 obtain⟨l,rfl,h3⟩:=zu h2
 obtain⟨j,rfl,h4⟩:=zu h3
 obtain⟨s,rfl,⟨hn,hp,hs1⟩,hk⟩:=zu h4
 obtain⟨n1,n2⟩:=zH hn
 obtain⟨q1,q2⟩:=xg hn hp
 obtain⟨m,rfl⟩:∃ m,n=Nat.succ m:=⟨n - 1,by omega⟩
 exact⟨EO0,zI,rfl,200,_,_,hk,rfl,fun r hr=>by rw[jm (XY hr)]; exact Imp.refl _,QX (zQ (zQ (zQ (zQ (Eq.mpr zJu zy4:zeR true) m (by omega)) l (by omega)) j q2) s (by omega)) hp⟩
noncomputable def zAY (a:Nat):KV:=.tup (.cons (nI a) (.cons (nI 0) .nl))
noncomputable def zGK (n l j s:Nat):Prop:=zk EO0 (zp EO0 200) 0 165 [nI n,nI l,nI j,nI s] .e 0 0 fun r _ _ _=>tK (kvb r (zAY (qA n l j s)))
noncomputable def W5 (q:Bool):Prop:=xT (fun m=>xT (fun l=>xT (fun j=>xT (fun s=>whB (isS (Nat.succ m) l j) (@Bool.rec (fun _=>Prop) True (zGK (Nat.succ m) l j s) q)) 2) 6) 3) 24
theorem zAZ:W5 true=W5 false:=by kernel_rfl
theorem zoD:W5 false:=z6 (fun m=>z6 (fun l=>z6 (fun j=>z6 (fun s=>zcL trivial) 2) 6) 3) 24
noncomputable def zhR:zf:=fun l K=>la4 l fun a b c d=>z9 a fun n=>z9 b fun l=>z9 c fun j=>z9 d fun s=>(zD n=true∧isS n l j=true∧s≤1)∧K (zAY (qA n l j s))
theorem zA0:KCS Tryz.prog 165 zhR:=jV ⟨Tryz.f165,Tryz.func165,by kernel_rfl,by kernel_rfl⟩ fun l K hs=>by
 obtain⟨a,b,c,d,rfl,h1⟩:=QU hs
 obtain⟨n,rfl,h2⟩:=zu h1
 obtain⟨l,rfl,h3⟩:=zu h2
 obtain⟨j,rfl,h4⟩:=zu h3
 obtain⟨s,rfl,⟨hn,hp,hs1⟩,hk⟩:=zu h4
 obtain⟨n1,n2⟩:=zH hn
 obtain⟨q1,q2⟩:=xg hn hp
 obtain⟨m,rfl⟩:∃ m,n=Nat.succ m:=⟨n - 1,by omega⟩
 exact⟨EO0,zI,rfl,200,_,_,hk,rfl,fun r hr=>by rw[jm (XY hr)]; exact Imp.refl _,QX (zQ (zQ (zQ (zQ (Eq.mpr zAZ zoD:W5 true) m (by omega)) l (by omega)) j q2) s (by omega)) hp⟩
noncomputable def Xy (b s:Nat):Nat:=Nat.add (Nat.mul 2 b) s
noncomputable def zwc (a:Nat):KV:=.tup (.cons (nI a) (.cons (nI 0) .nl))
noncomputable def r35 (b s:Nat):Prop:=zk EO0 (zp EO0 200) 0 35 [nI b,nI s] .e 0 0 fun r _ _ _=>tK (kvb r (nI (Xy b s)))
noncomputable def zej (q:Bool):Prop:=xT (fun b=>xT (fun s=>@Bool.rec (fun _=>Prop) True (r35 b s) q) 2) 24
theorem zHs:zej true=zej false:=by kernel_rfl
theorem zwd:zej false:=z6 (fun b=>z6 (fun s=>trivial) 2) 24
noncomputable def zCi:zf:=fun l K=>la2 l fun a b=>z9 a fun i=>z9 b fun s=>(i < 24∧s≤1)∧K (nI (Xy i s))
theorem zsO:KCS Tryz.prog 35 zCi:=jV ⟨Tryz.f35,Tryz.func35,by kernel_rfl,by kernel_rfl⟩ fun l K hs=>by
 obtain⟨a,b,rfl,h1⟩:=qt hs
 obtain⟨i,rfl,h2⟩:=zu h1
 obtain⟨s,rfl,⟨hi,hs1⟩,hk⟩:=zu h2
 exact⟨EO0,zI,rfl,200,_,_,hk,rfl,fun r hr=>by rw[jm (XY hr)]; exact Imp.refl _,zQ (zQ (Eq.mpr zHs zwd:zej true) i hi) s (by omega)⟩
noncomputable def r96 (n b s:Nat):Prop:=zk EO0 (zp EO0 200) 0 96 [nI n,nI b,nI s] .e 0 0 fun r _ _ _=>tK (kvb r (zwc (Xy b s)))
noncomputable def zek (q:Bool):Prop:=xT (fun m=>xT (fun b=>xT (fun s=>whB (Nat.ble b m) (@Bool.rec (fun _=>Prop) True (r96 (Nat.succ m) b s) q)) 2) 24) 24
theorem zHt:zek true=zek false:=by kernel_rfl
theorem zwe:zek false:=z6 (fun m=>z6 (fun b=>z6 (fun s=>zcL trivial) 2) 24) 24
noncomputable def zCj:zf:=fun l K=>la3 l fun a b c=>z9 a fun n=>z9 b fun i=>z9 c fun s=>(zD n=true∧i < n∧s≤1)∧K (zwc (Xy i s))
theorem zsP:KCS Tryz.prog 96 zCj:=jV ⟨Tryz.f96,Tryz.func96,by kernel_rfl,by kernel_rfl⟩ fun l K hs=>by
 obtain⟨a,b,c,rfl,h1⟩:=ZW hs
 obtain⟨n,rfl,h2⟩:=zu h1
 obtain⟨i,rfl,h3⟩:=zu h2
 obtain⟨s,rfl,⟨hn,hi,hs1⟩,hk⟩:=zu h3
 obtain⟨n1,n2⟩:=zH hn
 obtain⟨m,rfl⟩:∃ m,n=Nat.succ m:=⟨n - 1,by omega⟩
 exact⟨EO0,zI,rfl,200,_,_,hk,rfl,fun r hr=>by rw[jm (XY hr)]; exact Imp.refl _,QX (zQ (zQ (zQ (Eq.mpr zHt zwe:zek true) m (by omega)) i (by omega)) s (by omega)) (Nat.ble_eq_true_of_le (by omega))⟩
end
end Go.K
