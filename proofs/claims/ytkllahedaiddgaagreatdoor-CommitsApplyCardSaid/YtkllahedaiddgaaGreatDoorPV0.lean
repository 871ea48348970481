/- caissonref16.Node above the records: the runs. No condition. -/
import Derived.Test.YtkllahedaiddgaaGreatDoorPG2
set_option linter.unusedSimpArgs false
set_option linter.unusedVariables false
set_option maxRecDepth 100000
namespace Go.K
open Go.Ab Go.RowKit Go.Y Go.Proofs
noncomputable section
attribute [local instance 10000] gO
end
end Go.K
set_option maxRecDepth 100000
namespace Go.K
open Go.Ab Go.RowKit Go.Y Go.Proofs
noncomputable section
attribute [local instance 10000] gO
section
variable {n m a:Nat}{c:Nat→Un}
end
end
end Go.K
set_option maxRecDepth 100000
namespace Go.K
open Go.Ab Go.RowKit Go.Y Go.Proofs
noncomputable section
attribute [local instance 10000] gO
structure Ud where
 rc:Nat→Rc
 ch:Nat→Bool
 sl:Nat→Nat
noncomputable def roK (s:Shape) (n:Nat) (f:Nat→KV):KV:=.ro true false s 0 n (.fa n f)
structure UOk (n m:Nat) (u:Ud):Prop where
 n24:vV n=true
 tot:m=wK n
 wl:∀ i,i < n→(u.rc i).tg.length=32
 wb:∀ i,i < n→(u.rc i).wb
 sl:∀ i,i < m→u.sl i≤1
 st:∀ i,i < n→(u.rc i).st≤2
end
end Go.K
set_option maxRecDepth 100000
namespace Go.K
open Go.Ab Go.RowKit Go.Y Go.Proofs
noncomputable section
attribute [local instance 10000] gO
attribute [local irreducible] kpre cOf mOf rOf JL zp xO hS wK xv
section
variable {n m:Nat}{u:Ud}{l j:Nat}{B N:Nat}{a:Bool}
end
end
end Go.K
set_option maxRecDepth 100000
namespace Go.K
open Go.Ab Go.RowKit Go.Y Go.Proofs
noncomputable section
attribute [local instance 10000] gO
noncomputable def zjb (k:Nat):KV:=@Nat.rec (fun _=>KV) .nils (fun k _=>.row 1 .sc (Nat.succ k)) k
end
end Go.K
set_option maxRecDepth 100000
namespace Go.K
open Go.Ab Go.RowKit Go.Y Go.Proofs
noncomputable section
attribute [local instance 10000] gO
section
variable {n m:Nat}{u:Ud}{f:Nat→Nat}{l j:Nat}
end
end
end Go.K
set_option maxRecDepth 100000
namespace Go.K
open Go.Ab Go.RowKit Go.Y Go.Proofs
noncomputable section
attribute [local instance 10000] gO
attribute [local irreducible] kpre cOf mOf rOf JL zp xO hS wK xv
section
variable {n m:Nat}{u:Ud}{B N:Nat}
end
end
end Go.K
set_option maxRecDepth 100000
namespace Go.K
open Go.Ab Go.RowKit Go.Y Go.Proofs
noncomputable section
attribute [local instance 10000] gO
noncomputable def zyk (n:Nat) (rc:Nat→Rc):KV:=roK ztJ n fun i=>(rc i).k
attribute [local irreducible] kpre cOf mOf rOf JL zp xO hS wK xv
section
variable {n:Nat}{rc:Nat→Rc}{l j:Nat}{B N:Nat}{a:Bool}
end
end
end Go.K
set_option maxRecDepth 100000
namespace Go.K
open Go.Ab Go.RowKit Go.Y Go.Proofs
noncomputable section
attribute [local instance 10000] gO
noncomputable def zuU (m:Nat) (f:Nat→Nat):KV:=roK .sc m fun i=>nI (f i)
noncomputable def z0N (j:Nat) (l:Nat) (T U:KV):KV:=.cons (kU8 l) (.cons (zex j) (.cons (.ar 4 rcZ T) (.cons (.ar 4 enZ U) .nl)))
noncomputable def zxS (n l j w:Nat) (e x:Prop):Prop:=(vV n=true∧isS n l j=true)∧alt (ltN w (xl n l j)) x e
noncomputable def tr0 (rc:Nat→Rc) (j w:Nat):KV:=@Nat.rec (fun _=>KV) .te (fun i t=>vm (rc (Nat.add 0 (Nat.add (Nat.mul 4 j) i))).k (enc i) t) w
noncomputable def st0 (n:Nat) (rc:Nat→Rc) (j:Nat) (K:KV→Prop) (w:Nat) (x:Prop):Prop:=zxS n 0 j w (K (z0N j 0 (tr0 rc j w) .te)) (cnd (ixB (.ofNat (Nat.add (Nat.mul 4 j) w)) n) x)
end
end Go.K
