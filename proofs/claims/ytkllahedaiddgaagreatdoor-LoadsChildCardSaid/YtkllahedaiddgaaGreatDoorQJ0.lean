/- loads.Child: its runs. No condition. -/
import Derived.Test.YtkllahedaiddgaaGreatDoorQH0
set_option linter.unusedSimpArgs false
set_option linter.unusedVariables false
set_option maxRecDepth 100000
namespace Go.K
open Go.Ab Go.RowKit Go.Y Go.Proofs
noncomputable section
attribute [local instance 10000] gO
structure CE where
 n:Nat
 p:Nd
 x:Nd
 a:Nat
 b:Nat
 c:Nat
 P:Prop
noncomputable def CE.w (y:CE):KV:=.tup (.cons y.x.k (.cons (pgK y.a y.b) (.cons (nI y.c) .nl)))
noncomputable def C57 (e:Nat):KV:=.tup (.cons xv (.cons (pgK 0 0) (.cons (nI e) .nl)))
noncomputable def enU (f:Nat→En) (w:Nat) (e:En) (i:Nat):En:=@Bool.rec (fun _=>En) (f i) e (Nat.beq i w)
noncomputable def ndU (p:Nd) (l w s:Nat) (dg:List Nat):Nd:=⟨Nat.succ l,p.ix,p.rc,enU p.en w ⟨s,dg⟩⟩
noncomputable def E57 (y:CE) (fe l w s:Nat) (dg:List Nat) (d:Dk):KEnv:={ (EO0.tab [(123,zq [nI y.n,y.p.k] (nI fe)),(187,fun q K=>q=[za3 y.n d,plP l (Nat.add (Nat.mul 4 y.p.ix) w),nI s,kBy 32 (nN dg)]∧y.P∧K y.w)]).tabB [(112,zq [nI y.n,d.k] (ofK y.n d))] with sc:=true }
def p57 (y:CE) (fe l w s:Nat) (dg:List Nat) (d:Dk) (z:KV) (K:KV→Prop):Prop:=zi (E57 y fe l w s dg d) (zj (E57 y fe l w s dg d) 60) 0 57 [nI y.n,d.k,y.p.k,z] .e 0 0 fun r _ _ _=>K r
noncomputable def yU (y:CE) (l w s:Nat) (dg:List Nat):CE:={ y with p:=ndU y.p l w s dg }
def zcv (y:CE) (d:Dk) (e:Nat) (K:KV→Prop):Prop:=[nI y.n,d.k]=[nI y.n,d.k]∧[nI y.n,y.p.k]=[nI y.n,y.p.k]∧K (C57 e)
theorem zCI (y:CE) (fe l w s:Nat) (dg:List Nat) (d:Dk) (z:Int) (K:KV→Prop):p57 y (Nat.succ fe) l w s dg d (.int .i64 z) K=zcv y d 1 K:=by kernel_rfl
theorem zCJ (y:CE) (l w s:Nat) (dg:List Nat) (d:Dk) (k:Nat) (K:KV→Prop):p57 y 0 l w s dg d (.int .i64 (.negSucc k)) K=zcv y d 1 K:=by kernel_rfl
theorem zCK (y:CE) (l w s:Nat) (dg:List Nat) (d:Dk) (k:Nat) (K:KV→Prop):p57 y 0 l w s dg d (nI (Nat.succ (Nat.succ (Nat.succ (Nat.succ k))))) K=zcv y d 1 K:=by kernel_rfl
noncomputable def yZ (y:CE):CE:={ y with p:=⟨0,y.p.ix,y.p.rc,y.p.en⟩ }
def zxH (y:CE) (l w s:Nat) (dg:List Nat) (d:Dk) (K:KV→Prop):Prop:=[nI y.n,d.k]=[nI y.n,d.k]∧[nI y.n,y.p.k]=[nI y.n,y.p.k]∧cnd (b63 (Nat.succ l)) (cnd (b63 l) (cnd (b63 y.p.ix) (cnd (b63 (Nat.mul 4 y.p.ix)) (cnd (b63 (Nat.add (Nat.mul 4 y.p.ix) w)) ([za3 y.n d,plP l (Nat.add (Nat.mul 4 y.p.ix) w),nI s,kBy 32 (nN dg)]=[za3 y.n d,plP l (Nat.add (Nat.mul 4 y.p.ix) w),nI s,kBy 32 (nN dg)]∧y.P∧K y.w)))))
def Z57 (w:Nat):Prop:=∀(y:CE) (l s:Nat) (dg:List Nat) (d:Dk) (K:KV→Prop),p57 (yZ y) 0 l w s dg d (nI w) K=zcv (yZ y) d 11 K
def Y57 (w:Nat):Prop:=∀(y:CE) (l:Nat) (dg:List Nat) (d:Dk) (K:KV→Prop),p57 (yU y l w 0 dg) 0 l w 0 dg d (nI w) K=zcv (yU y l w 0 dg) d 11 K
def M57 (w s:Nat):Prop:=∀(y:CE) (l:Nat) (dg:List Nat) (d:Dk) (K:KV→Prop),p57 (yU y l w (s + 1) dg) 0 l w s dg d (nI w) K=zxH (yU y l w (s + 1) dg) l w s dg d K
theorem zxI:Z57 0:=by intro y l s dg d K; kernel_rfl
theorem zxJ:Y57 0:=by intro y l dg d K; kernel_rfl
theorem zsE:M57 0 0:=by intro y l dg d K; kernel_rfl
theorem zsF:M57 0 1:=by intro y l dg d K; kernel_rfl
theorem zxK:Z57 1:=by intro y l s dg d K; kernel_rfl
theorem zxL:Y57 1:=by intro y l dg d K; kernel_rfl
theorem zsG:M57 1 0:=by intro y l dg d K; kernel_rfl
theorem zsH:M57 1 1:=by intro y l dg d K; kernel_rfl
theorem zxM:Z57 2:=by intro y l s dg d K; kernel_rfl
theorem zxN:Y57 2:=by intro y l dg d K; kernel_rfl
theorem zsI:M57 2 0:=by intro y l dg d K; kernel_rfl
theorem zsJ:M57 2 1:=by intro y l dg d K; kernel_rfl
theorem zxO:Z57 3:=by intro y l s dg d K; kernel_rfl
theorem zxP:Y57 3:=by intro y l dg d K; kernel_rfl
theorem zsK:M57 3 0:=by intro y l dg d K; kernel_rfl
theorem zsL:M57 3 1:=by intro y l dg d K; kernel_rfl
theorem zsM:xr (fun w=>Z57 w∧Y57 w∧xr (M57 w) 2) 4:=⟨⟨⟨⟨trivial,⟨zxI,zxJ,⟨trivial,zsE⟩,zsF⟩⟩,⟨zxK,zxL,⟨trivial,zsG⟩,zsH⟩⟩,⟨zxM,zxN,⟨trivial,zsI⟩,zsJ⟩⟩,⟨zxO,zxP,⟨trivial,zsK⟩,zsL⟩⟩
end
end Go.K
