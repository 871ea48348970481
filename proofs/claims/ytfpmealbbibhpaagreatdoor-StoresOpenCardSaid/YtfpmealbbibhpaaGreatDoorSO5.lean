/- stores.Open: its contracts. No condition. stores.Open, of any configuration of at most 60 blocks. No condition. stores.Open: what is handed back. No condition. -/
import Derived.Test.YtfpmealbbibhpaaGreatDoorSJ1
import Derived.Test.YtfpmealbbibhpaaGreatDoorSO1
set_option linter.unusedVariables false
set_option linter.unusedSimpArgs false
set_option maxRecDepth 100000
namespace Go.K
open Go.Ab Go.RowKit Go.Y Go.Proofs
noncomputable section
attribute [local instance 10000] gO
def okNw (z:Int) (a b:Nat):Bool:=@Int.rec (fun _=>Bool) (fun n=>okNK n a b) (fun _=>false) z
def sNew:KSpec:=fun l K=>∃ x:Int×Nat×Nat,l=[.int .i64 x.1,uI x.2.1,uI x.2.2]∧(okNw x.1 x.2.1 x.2.2=true→K (.tup (.cons (ncK true false x.1.toNat x.2.1 x.2.2) (.cons (nI 0) .nl))))∧(okNw x.1 x.2.1 x.2.2=false→K (bad115 1))
def sFr:KSpec:=fun l K=>∃ n:Nat,l=[nI n]∧(1≤n∧n≤60)∧K (frF n)
def sWk:KSpec:=fun l K=>∃ n:Nat,l=[nI n,dskF n,celF n]∧(1≤n∧n≤60)∧K (wkF n)
def E38:KEnv:=EO0.tab [(115,sNew),(20,sFr),(35,sWk),(116,sVol)]
structure Cf where
  n:Int
  sh:Int
  fr:Int
  cl:Int
  a:Nat
  b:Nat
  m:Nat→Nat
  fl:Int
def Cf.k (c:Cf):KV:=.cons (.int .i64 c.n) (.cons (.int .i64 c.sh) (.cons (.int .i64 c.fr) (.cons (.int .i64 c.cl) (.cons (uI c.a) (.cons (uI c.b) (.cons (msK c.m) (.cons (.int .u8 c.fl) .nl)))))))
noncomputable def l38:List Code:=fl (cOf 38)
noncomputable def p38 (c:Cf) (Q:QT) (R:RT):Prop:=kpre E38 60 (mOf 38) l38 (mkTr (argM (mOf 38) 0 [c.k])) (mkZm []) 0 0 (outR Tryz.prog (rOf 38) [] [7] Q R)
end
end Go.K
set_option maxRecDepth 100000
namespace Go.K
open Go.Ab Go.RowKit Go.Y Go.Proofs
noncomputable section
attribute [local instance 10000] gO
def zB:KV:=.int .u8 (.ofNat 0)
def zSt:KV:=.cons (nI 0) (.cons (.cons (.ar 16 zB .te) (.cons (.ar 32 zB .te) .nl)) (.cons (.cons (nI 0) (.cons (nI 0) (.cons .nils .nl))) (.cons .nils (.cons (.cons .nils (.cons zu (.cons zu (.cons zu .nl)))) (.cons (.cons (nI 0) (.cons .nils .nl)) (.cons (.cons .nils .nl) (.cons (.bool false) .nl)))))))
def zRes:KV:=.tup (.cons zSt (.cons (nI 7) .nl))
def shCl:Shape:=.cons (.arr 32 .sc) (.cons .sc (.cons .sc .nl))
def stoK (z:Int) (n k:Nat) (a b:Nat) (l:KV):KV:=.cons (.int .i64 z) (.cons kyK (.cons (dskF n) (.cons l (.cons (ncK true false k a b) (.cons (wtF n) (.cons (.cons .nils .nl) (.cons (.bool false) .nl)))))))
def vRes (z:Int) (n k:Nat) (a b:Nat) (l:KV):KV:=.tup (.cons (stoK z n k a b l) (.cons (nI 0) .nl))
def celZ:KV:=.cons (.ar 32 zB .te) (.cons zu (.cons zu .nl))
def rwB (n:Nat):KBlk:=⟨.row 36,.arr 1 shCl,.ar 1 celZ (.tn (celF n) .te .te .te .te)⟩
def rest38 (c:Cf) (R:RT):Prop:=∃ x:Int×Nat×Nat,[.int .i64 c.sh,uI c.a,uI c.b]=[.int .i64 x.1,uI x.2.1,uI x.2.2] ∧
  (okNw x.1 x.2.1 x.2.2=true→∃ n:Nat,[.int .i64 c.n]=[nI n]∧(1≤n∧n≤60)∧∃ n1:Nat,[.int .i64 c.n,dskF n,celF n]=[nI n1,dskF n1,celF n1]∧(1≤n1∧n1≤60)∧∃ m:Nat→Nat,[msK c.m]=[msK m] ∧
    R (.tup (.cons (.cons (.int .i64 c.n) (.cons kyK (.cons (dskF n) (.cons (.row 7 shCl 1) (.cons (ncK true false x.1.toNat x.2.1 x.2.2) (.cons (wtF n1) (.cons (.cons .nils .nl) (.cons (.bool false) .nl)))))))) (.cons (nI 0) .nl))) [some (rwB n)] 8) ∧
  (okNw x.1 x.2.1 x.2.2=false→R zRes [none] 3)
theorem e38 (c:Cf) (Q:QT) (R:RT):p38 c Q R=alt (ltI c.n (.ofNat 1)) (R zRes [none] 2) (alt (ltI (.ofNat 4096) c.n) (R zRes [none] 2) (alt (ltI c.n c.sh) (R zRes [none] 2) (rest38 c R))):=by kernel_rfl
end
end Go.K
set_option maxRecDepth 100000
namespace Go.K
open Go.Ab Go.RowKit Go.Y Go.Proofs
noncomputable section
attribute [local instance 10000] gO
theorem ubK_tb {a b c d:KV}:ubK (.tb a b c d)=true↔ubK a=true∧ubK b=true∧ubK c=true∧ubK d=true:=by
  rw[show ubK (.tb a b c d)=nd (ubK a) (nd (ubK b) (nd (ubK c) (ubK d))) from rfl]
  simp only[nd_iff]
theorem ubK_tn {x a b c d:KV}:ubK (.tn x a b c d)=true↔ubK x=true∧ubK a=true∧ubK b=true∧ubK c=true∧ubK d=true:=by
  rw[show ubK (.tn x a b c d)=nd (ubK x) (nd (ubK a) (nd (ubK b) (nd (ubK c) (ubK d)))) from rfl]
  simp only[nd_iff]
theorem ubK_te:ubK .te=true:=rfl
theorem ubK_kset {x:KV}(hx:ubK x=true):∀(p:Pth) (t:KV),ubK t=true→ubK (kset x p t)=true
  | [],t,h=>by
    cases t<;>first
      | (rw[ubK_tb] at h; show ubK (.tn _ _ _ _ _)=true; rw[ubK_tn]; exact⟨hx,h⟩)
      | (rw[ubK_tn] at h; show ubK (.tn _ _ _ _ _)=true; rw[ubK_tn]; exact⟨hx,h.2⟩)
      | (show ubK (.tn _ _ _ _ _)=true; rw[ubK_tn]; exact⟨hx,rfl,rfl,rfl,rfl⟩)
  | g::p,t,h=>by
    have ih:=ubK_kset hx p
    cases t<;>cases g<;>first
      | (rw[ubK_tb] at h; obtain⟨h1,h2,h3,h4⟩:=h; show ubK (.tb _ _ _ _)=true; rw[ubK_tb]; refine⟨?_,?_,?_,?_⟩<;>first | assumption | exact ih _ ‹_›)
      | (rw[ubK_tn] at h; obtain⟨h0,h1,h2,h3,h4⟩:=h; show ubK (.tn _ _ _ _ _)=true; rw[ubK_tn]; refine⟨h0,?_,?_,?_,?_⟩<;>first | assumption | exact ih _ ‹_›)
      | (show ubK (.tb _ _ _ _)=true; rw[ubK_tb]; refine⟨?_,?_,?_,?_⟩<;>first | rfl | exact ih _ rfl)
theorem ubK_trF {f:Nat→KV}(h:∀ i,ubK (f i)=true):∀ n,ubK (trF f n)=true
  | 0=>rfl
  | n + 1=>ubK_kset (h n) _ _ (ubK_trF h n)
theorem ubK_bsel {b:Bool}{x y:KV}(hx:ubK x=true) (hy:ubK y=true):ubK (bsel b x y)=true:=by
  cases b
  · exact hy
  · exact hx
theorem ubK_dsk (n:Nat):ubK (dskF n)=true:=by
  have h1:ubK (verF (hgtF n))=true:=rfl
  have h2:ubK (chF (hgtF n) (secF n - 2))=true:=by
    show nd true (nd true (ubK (kset (verF (hgtF n)) (enc ((secF n - 2) % 64)) .te)))=true
    rw[ubK_kset h1 _ _ rfl]; rfl
  have h3:ubK (treeT chE (ckF n))=true:=ubK_trF (f:=fun _=>chE) (fun _=>rfl) _
  show nd true (nd true (nd (nd true (nd true (ubK (kset (chF (hgtF n) (secF n - 2)) (enc ((secF n - 2) / 64)) (treeT chE (ckF n)))))) true))=true
  rw[ubK_kset h2 _ _ h3]; rfl
theorem ubK_nd (n k:Nat):ubK (ndF n k)=true:=by
  refine ubK_bsel ?_ (ubK_bsel rfl rfl)
  cases hgtF n with
  | zero=>exact rfl
  | succ h=>exact rfl
theorem ubK_wt (n:Nat):ubK (wtF n)=true:=by
  show nd true (nd (nd true (nd true (ubK (trF (ndF n) (totF n))))) true)=true
  rw[ubK_trF (ubK_nd n)]; rfl
theorem FzP.ub {zm:KZ}{v:KV}(h:ubK v=true):FzP true zm v v:=fun B C M _ _=>R.allT_fr h
end
end Go.K
