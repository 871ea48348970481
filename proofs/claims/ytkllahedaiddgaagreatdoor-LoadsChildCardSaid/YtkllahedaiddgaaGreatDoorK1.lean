/- A region in whatever order: chains of edges. No condition. -/
import Derived.Test.YtkllahedaiddgaaGreatDoorY5
set_option linter.unusedSimpArgs false
set_option linter.unusedVariables false
namespace Go.K
open Go.Ab Go.RowKit Go.Y
noncomputable section
inductive KV where
 | int (k:IntKind) (n:Int)
 | bool (b:Bool)
 | str (n:Nat) (x:Nat)
 | nl
 | cons (h:KV) (t:KV)
 | pk (k:IntKind) (n:Nat) (x:Nat)
 | ar (n:Nat) (d:KV) (t:KV)
 | te
 | tb (a:KV) (b:KV) (c:KV) (d:KV)
 | tn (x:KV) (a:KV) (b:KV) (c:KV) (d:KV)
 | ptr (id:Nat) (p:List Step) (s:Shape)
 | row (id:Nat) (s:Shape) (n:Nat)
 | sl (id:Nat) (p:List Step) (s:Shape) (off:Nat) (len:Nat) (cap:Option Nat)
 | ref (w:Bool) (s:Shape) (c:KV)
 | nilp
 | nils
 | nilf
 | ro (w:Bool) (clip:Bool) (s:Shape) (off:Nat) (len:Nat) (c:KV)
 | fn (f:FuncId) (cap:KV)
 | tup (l:KV)
 | unk
 | yld (id:Nat)
 | fa (n:Nat) (f:Nat→KV)
 | clo (x:KV)
 deriving Inhabited
def z8 (f:IntKind→Int→Prop) (z:Prop) (v:KV):Prop:=@KV.rec (fun _=>(IntKind→Int→Prop)→Prop→Prop) (fun x0 x1 f _=>f x0 x1) (fun _ _ z=>z) (fun _ _ _ z=>z) (fun _ z=>z) (fun _ _ _ _ _ z=>z) (fun _ _ _ _ z=>z) (fun _ _ _ _ _ _ z=>z) (fun _ z=>z) (fun _ _ _ _ _ _ _ _ _ z=>z) (fun _ _ _ _ _ _ _ _ _ _ _ z=>z) (fun _ _ _ _ z=>z) (fun _ _ _ _ z=>z) (fun _ _ _ _ _ _ _ z=>z) (fun _ _ _ _ _ z=>z) (fun _ z=>z) (fun _ z=>z) (fun _ z=>z) (fun _ _ _ _ _ _ _ _ z=>z) (fun _ _ _ _ z=>z) (fun _ _ _ z=>z) (fun _ z=>z) (fun _=>(fun _ z=>z)) (fun _ _ _=>(fun _ z=>z)) (fun _ _=>(fun _ z=>z)) v f z
theorem zz {f:IntKind→Int→Prop}{z:Prop}{v:KV}(h:z8 f z v):(∃ x0 x1,v=.int x0 x1∧f x0 x1)∨((∀ x0 x1,v≠.int x0 x1)∧z):=by
 cases v<;>first | exact .inl ⟨_,_,rfl,h⟩ | exact .inr ⟨by intros; simp,h⟩
def jo (f:Bool→Prop) (z:Prop) (v:KV):Prop:=@KV.rec (fun _=>(Bool→Prop)→Prop→Prop) (fun _ _ _ z=>z) (fun x0 f _=>f x0) (fun _ _ _ z=>z) (fun _ z=>z) (fun _ _ _ _ _ z=>z) (fun _ _ _ _ z=>z) (fun _ _ _ _ _ _ z=>z) (fun _ z=>z) (fun _ _ _ _ _ _ _ _ _ z=>z) (fun _ _ _ _ _ _ _ _ _ _ _ z=>z) (fun _ _ _ _ z=>z) (fun _ _ _ _ z=>z) (fun _ _ _ _ _ _ _ z=>z) (fun _ _ _ _ _ z=>z) (fun _ z=>z) (fun _ z=>z) (fun _ z=>z) (fun _ _ _ _ _ _ _ _ z=>z) (fun _ _ _ _ z=>z) (fun _ _ _ z=>z) (fun _ z=>z) (fun _=>(fun _ z=>z)) (fun _ _ _=>(fun _ z=>z)) (fun _ _=>(fun _ z=>z)) v f z
theorem xI {f:Bool→Prop}{z:Prop}{v:KV}(h:jo f z v):(∃ x0,v=.bool x0∧f x0)∨((∀ x0,v≠.bool x0)∧z):=by
 cases v<;>first | exact .inl ⟨_,rfl,h⟩ | exact .inr ⟨by intros; simp,h⟩
def qp (f:Nat→Nat→Prop) (z:Prop) (v:KV):Prop:=@KV.rec (fun _=>(Nat→Nat→Prop)→Prop→Prop) (fun _ _ _ z=>z) (fun _ _ z=>z) (fun x0 x1 f _=>f x0 x1) (fun _ z=>z) (fun _ _ _ _ _ z=>z) (fun _ _ _ _ z=>z) (fun _ _ _ _ _ _ z=>z) (fun _ z=>z) (fun _ _ _ _ _ _ _ _ _ z=>z) (fun _ _ _ _ _ _ _ _ _ _ _ z=>z) (fun _ _ _ _ z=>z) (fun _ _ _ _ z=>z) (fun _ _ _ _ _ _ _ z=>z) (fun _ _ _ _ _ z=>z) (fun _ z=>z) (fun _ z=>z) (fun _ z=>z) (fun _ _ _ _ _ _ _ _ z=>z) (fun _ _ _ _ z=>z) (fun _ _ _ z=>z) (fun _ z=>z) (fun _=>(fun _ z=>z)) (fun _ _ _=>(fun _ z=>z)) (fun _ _=>(fun _ z=>z)) v f z
theorem vq {f:Nat→Nat→Prop}{z:Prop}{v:KV}(h:qp f z v):(∃ x0 x1,v=.str x0 x1∧f x0 x1)∨((∀ x0 x1,v≠.str x0 x1)∧z):=by
 cases v<;>first | exact .inl ⟨_,_,rfl,h⟩ | exact .inr ⟨by intros; simp,h⟩
def xN (f:KV→KV→Prop) (z:Prop) (v:KV):Prop:=@KV.rec (fun _=>(KV→KV→Prop)→Prop→Prop) (fun _ _ _ z=>z) (fun _ _ z=>z) (fun _ _ _ z=>z) (fun _ z=>z) (fun x0 x1 _ _ f _=>f x0 x1) (fun _ _ _ _ z=>z) (fun _ _ _ _ _ _ z=>z) (fun _ z=>z) (fun _ _ _ _ _ _ _ _ _ z=>z) (fun _ _ _ _ _ _ _ _ _ _ _ z=>z) (fun _ _ _ _ z=>z) (fun _ _ _ _ z=>z) (fun _ _ _ _ _ _ _ z=>z) (fun _ _ _ _ _ z=>z) (fun _ z=>z) (fun _ z=>z) (fun _ z=>z) (fun _ _ _ _ _ _ _ _ z=>z) (fun _ _ _ _ z=>z) (fun _ _ _ z=>z) (fun _ z=>z) (fun _=>(fun _ z=>z)) (fun _ _ _=>(fun _ z=>z)) (fun _ _=>(fun _ z=>z)) v f z
theorem xh {f:KV→KV→Prop}{z:Prop}{v:KV}(h:xN f z v):(∃ x0 x1,v=.cons x0 x1∧f x0 x1)∨((∀ x0 x1,v≠.cons x0 x1)∧z):=by
 cases v<;>first | exact .inl ⟨_,_,rfl,h⟩ | exact .inr ⟨by intros; simp,h⟩
def wh (f:IntKind→Nat→Nat→Prop) (z:Prop) (v:KV):Prop:=@KV.rec (fun _=>(IntKind→Nat→Nat→Prop)→Prop→Prop) (fun _ _ _ z=>z) (fun _ _ z=>z) (fun _ _ _ z=>z) (fun _ z=>z) (fun _ _ _ _ _ z=>z) (fun x0 x1 x2 f _=>f x0 x1 x2) (fun _ _ _ _ _ _ z=>z) (fun _ z=>z) (fun _ _ _ _ _ _ _ _ _ z=>z) (fun _ _ _ _ _ _ _ _ _ _ _ z=>z) (fun _ _ _ _ z=>z) (fun _ _ _ _ z=>z) (fun _ _ _ _ _ _ _ z=>z) (fun _ _ _ _ _ z=>z) (fun _ z=>z) (fun _ z=>z) (fun _ z=>z) (fun _ _ _ _ _ _ _ _ z=>z) (fun _ _ _ _ z=>z) (fun _ _ _ z=>z) (fun _ z=>z) (fun _=>(fun _ z=>z)) (fun _ _ _=>(fun _ z=>z)) (fun _ _=>(fun _ z=>z)) v f z
theorem xp {f:IntKind→Nat→Nat→Prop}{z:Prop}{v:KV}(h:wh f z v):(∃ x0 x1 x2,v=.pk x0 x1 x2∧f x0 x1 x2)∨((∀ x0 x1 x2,v≠.pk x0 x1 x2)∧z):=by
 cases v<;>first | exact .inl ⟨_,_,_,rfl,h⟩ | exact .inr ⟨by intros; simp,h⟩
def W5 (f:Nat→KV→KV→Prop) (z:Prop) (v:KV):Prop:=@KV.rec (fun _=>(Nat→KV→KV→Prop)→Prop→Prop) (fun _ _ _ z=>z) (fun _ _ z=>z) (fun _ _ _ z=>z) (fun _ z=>z) (fun _ _ _ _ _ z=>z) (fun _ _ _ _ z=>z) (fun x0 x1 x2 _ _ f _=>f x0 x1 x2) (fun _ z=>z) (fun _ _ _ _ _ _ _ _ _ z=>z) (fun _ _ _ _ _ _ _ _ _ _ _ z=>z) (fun _ _ _ _ z=>z) (fun _ _ _ _ z=>z) (fun _ _ _ _ _ _ _ z=>z) (fun _ _ _ _ _ z=>z) (fun _ z=>z) (fun _ z=>z) (fun _ z=>z) (fun _ _ _ _ _ _ _ _ z=>z) (fun _ _ _ _ z=>z) (fun _ _ _ z=>z) (fun _ z=>z) (fun _=>(fun _ z=>z)) (fun _ _ _=>(fun _ z=>z)) (fun _ _=>(fun _ z=>z)) v f z
theorem jb {f:Nat→KV→KV→Prop}{z:Prop}{v:KV}(h:W5 f z v):(∃ x0 x1 x2,v=.ar x0 x1 x2∧f x0 x1 x2)∨((∀ x0 x1 x2,v≠.ar x0 x1 x2)∧z):=by
 cases v<;>first | exact .inl ⟨_,_,_,rfl,h⟩ | exact .inr ⟨by intros; simp,h⟩
def yz (f:Nat→(List Step)→Shape→Prop) (z:Prop) (v:KV):Prop:=@KV.rec (fun _=>(Nat→(List Step)→Shape→Prop)→Prop→Prop) (fun _ _ _ z=>z) (fun _ _ z=>z) (fun _ _ _ z=>z) (fun _ z=>z) (fun _ _ _ _ _ z=>z) (fun _ _ _ _ z=>z) (fun _ _ _ _ _ _ z=>z) (fun _ z=>z) (fun _ _ _ _ _ _ _ _ _ z=>z) (fun _ _ _ _ _ _ _ _ _ _ _ z=>z) (fun x0 x1 x2 f _=>f x0 x1 x2) (fun _ _ _ _ z=>z) (fun _ _ _ _ _ _ _ z=>z) (fun _ _ _ _ _ z=>z) (fun _ z=>z) (fun _ z=>z) (fun _ z=>z) (fun _ _ _ _ _ _ _ _ z=>z) (fun _ _ _ _ z=>z) (fun _ _ _ z=>z) (fun _ z=>z) (fun _=>(fun _ z=>z)) (fun _ _ _=>(fun _ z=>z)) (fun _ _=>(fun _ z=>z)) v f z
theorem xY {f:Nat→(List Step)→Shape→Prop}{z:Prop}{v:KV}(h:yz f z v):(∃ x0 x1 x2,v=.ptr x0 x1 x2∧f x0 x1 x2)∨((∀ x0 x1 x2,v≠.ptr x0 x1 x2)∧z):=by
 cases v<;>first | exact .inl ⟨_,_,_,rfl,h⟩ | exact .inr ⟨by intros; simp,h⟩
def yA (f:Nat→Shape→Nat→Prop) (z:Prop) (v:KV):Prop:=@KV.rec (fun _=>(Nat→Shape→Nat→Prop)→Prop→Prop) (fun _ _ _ z=>z) (fun _ _ z=>z) (fun _ _ _ z=>z) (fun _ z=>z) (fun _ _ _ _ _ z=>z) (fun _ _ _ _ z=>z) (fun _ _ _ _ _ _ z=>z) (fun _ z=>z) (fun _ _ _ _ _ _ _ _ _ z=>z) (fun _ _ _ _ _ _ _ _ _ _ _ z=>z) (fun _ _ _ _ z=>z) (fun x0 x1 x2 f _=>f x0 x1 x2) (fun _ _ _ _ _ _ _ z=>z) (fun _ _ _ _ _ z=>z) (fun _ z=>z) (fun _ z=>z) (fun _ z=>z) (fun _ _ _ _ _ _ _ _ z=>z) (fun _ _ _ _ z=>z) (fun _ _ _ z=>z) (fun _ z=>z) (fun _=>(fun _ z=>z)) (fun _ _ _=>(fun _ z=>z)) (fun _ _=>(fun _ z=>z)) v f z
theorem vu {f:Nat→Shape→Nat→Prop}{z:Prop}{v:KV}(h:yA f z v):(∃ x0 x1 x2,v=.row x0 x1 x2∧f x0 x1 x2)∨((∀ x0 x1 x2,v≠.row x0 x1 x2)∧z):=by
 cases v<;>first | exact .inl ⟨_,_,_,rfl,h⟩ | exact .inr ⟨by intros; simp,h⟩
def Jg (f:Nat→(List Step)→Shape→Nat→Nat→(Option Nat)→Prop) (z:Prop) (v:KV):Prop:=@KV.rec (fun _=>(Nat→(List Step)→Shape→Nat→Nat→(Option Nat)→Prop)→Prop→Prop) (fun _ _ _ z=>z) (fun _ _ z=>z) (fun _ _ _ z=>z) (fun _ z=>z) (fun _ _ _ _ _ z=>z) (fun _ _ _ _ z=>z) (fun _ _ _ _ _ _ z=>z) (fun _ z=>z) (fun _ _ _ _ _ _ _ _ _ z=>z) (fun _ _ _ _ _ _ _ _ _ _ _ z=>z) (fun _ _ _ _ z=>z) (fun _ _ _ _ z=>z) (fun x0 x1 x2 x3 x4 x5 f _=>f x0 x1 x2 x3 x4 x5) (fun _ _ _ _ _ z=>z) (fun _ z=>z) (fun _ z=>z) (fun _ z=>z) (fun _ _ _ _ _ _ _ _ z=>z) (fun _ _ _ _ z=>z) (fun _ _ _ z=>z) (fun _ z=>z) (fun _=>(fun _ z=>z)) (fun _ _ _=>(fun _ z=>z)) (fun _ _=>(fun _ z=>z)) v f z
theorem ve {f:Nat→(List Step)→Shape→Nat→Nat→(Option Nat)→Prop}{z:Prop}{v:KV}(h:Jg f z v):(∃ x0 x1 x2 x3 x4 x5,v=.sl x0 x1 x2 x3 x4 x5∧f x0 x1 x2 x3 x4 x5)∨((∀ x0 x1 x2 x3 x4 x5,v≠.sl x0 x1 x2 x3 x4 x5)∧z):=by
 cases v<;>first | exact .inl ⟨_,_,_,_,_,_,rfl,h⟩ | exact .inr ⟨by intros; simp,h⟩
def QP (f:Bool→Shape→KV→Prop) (z:Prop) (v:KV):Prop:=@KV.rec (fun _=>(Bool→Shape→KV→Prop)→Prop→Prop) (fun _ _ _ z=>z) (fun _ _ z=>z) (fun _ _ _ z=>z) (fun _ z=>z) (fun _ _ _ _ _ z=>z) (fun _ _ _ _ z=>z) (fun _ _ _ _ _ _ z=>z) (fun _ z=>z) (fun _ _ _ _ _ _ _ _ _ z=>z) (fun _ _ _ _ _ _ _ _ _ _ _ z=>z) (fun _ _ _ _ z=>z) (fun _ _ _ _ z=>z) (fun _ _ _ _ _ _ _ z=>z) (fun x0 x1 x2 _ f _=>f x0 x1 x2) (fun _ z=>z) (fun _ z=>z) (fun _ z=>z) (fun _ _ _ _ _ _ _ _ z=>z) (fun _ _ _ _ z=>z) (fun _ _ _ z=>z) (fun _ z=>z) (fun _=>(fun _ z=>z)) (fun _ _ _=>(fun _ z=>z)) (fun _ _=>(fun _ z=>z)) v f z
theorem qq {f:Bool→Shape→KV→Prop}{z:Prop}{v:KV}(h:QP f z v):(∃ x0 x1 x2,v=.ref x0 x1 x2∧f x0 x1 x2)∨((∀ x0 x1 x2,v≠.ref x0 x1 x2)∧z):=by
 cases v<;>first | exact .inl ⟨_,_,_,rfl,h⟩ | exact .inr ⟨by intros; simp,h⟩
def Xu (f:Bool→Bool→Shape→Nat→Nat→KV→Prop) (z:Prop) (v:KV):Prop:=@KV.rec (fun _=>(Bool→Bool→Shape→Nat→Nat→KV→Prop)→Prop→Prop) (fun _ _ _ z=>z) (fun _ _ z=>z) (fun _ _ _ z=>z) (fun _ z=>z) (fun _ _ _ _ _ z=>z) (fun _ _ _ _ z=>z) (fun _ _ _ _ _ _ z=>z) (fun _ z=>z) (fun _ _ _ _ _ _ _ _ _ z=>z) (fun _ _ _ _ _ _ _ _ _ _ _ z=>z) (fun _ _ _ _ z=>z) (fun _ _ _ _ z=>z) (fun _ _ _ _ _ _ _ z=>z) (fun _ _ _ _ _ z=>z) (fun _ z=>z) (fun _ z=>z) (fun _ z=>z) (fun x0 x1 x2 x3 x4 x5 _ f _=>f x0 x1 x2 x3 x4 x5) (fun _ _ _ _ z=>z) (fun _ _ _ z=>z) (fun _ z=>z) (fun _=>(fun _ z=>z)) (fun _ _ _=>(fun _ z=>z)) (fun _ _=>(fun _ z=>z)) v f z
theorem xJ {f:Bool→Bool→Shape→Nat→Nat→KV→Prop}{z:Prop}{v:KV}(h:Xu f z v):(∃ x0 x1 x2 x3 x4 x5,v=.ro x0 x1 x2 x3 x4 x5∧f x0 x1 x2 x3 x4 x5)∨((∀ x0 x1 x2 x3 x4 x5,v≠.ro x0 x1 x2 x3 x4 x5)∧z):=by
 cases v<;>first | exact .inl ⟨_,_,_,_,_,_,rfl,h⟩ | exact .inr ⟨by intros; simp,h⟩
def zaQ (f:FuncId→KV→Prop) (z:Prop) (v:KV):Prop:=@KV.rec (fun _=>(FuncId→KV→Prop)→Prop→Prop) (fun _ _ _ z=>z) (fun _ _ z=>z) (fun _ _ _ z=>z) (fun _ z=>z) (fun _ _ _ _ _ z=>z) (fun _ _ _ _ z=>z) (fun _ _ _ _ _ _ z=>z) (fun _ z=>z) (fun _ _ _ _ _ _ _ _ _ z=>z) (fun _ _ _ _ _ _ _ _ _ _ _ z=>z) (fun _ _ _ _ z=>z) (fun _ _ _ _ z=>z) (fun _ _ _ _ _ _ _ z=>z) (fun _ _ _ _ _ z=>z) (fun _ z=>z) (fun _ z=>z) (fun _ z=>z) (fun _ _ _ _ _ _ _ _ z=>z) (fun x0 x1 _ f _=>f x0 x1) (fun _ _ _ z=>z) (fun _ z=>z) (fun _=>(fun _ z=>z)) (fun _ _ _=>(fun _ z=>z)) (fun _ _=>(fun _ z=>z)) v f z
theorem wG {f:FuncId→KV→Prop}{z:Prop}{v:KV}(h:zaQ f z v):(∃ x0 x1,v=.fn x0 x1∧f x0 x1)∨((∀ x0 x1,v≠.fn x0 x1)∧z):=by
 cases v<;>first | exact .inl ⟨_,_,rfl,h⟩ | exact .inr ⟨by intros; simp,h⟩
def QQ (f:KV→Prop) (z:Prop) (v:KV):Prop:=@KV.rec (fun _=>(KV→Prop)→Prop→Prop) (fun _ _ _ z=>z) (fun _ _ z=>z) (fun _ _ _ z=>z) (fun _ z=>z) (fun _ _ _ _ _ z=>z) (fun _ _ _ _ z=>z) (fun _ _ _ _ _ _ z=>z) (fun _ z=>z) (fun _ _ _ _ _ _ _ _ _ z=>z) (fun _ _ _ _ _ _ _ _ _ _ _ z=>z) (fun _ _ _ _ z=>z) (fun _ _ _ _ z=>z) (fun _ _ _ _ _ _ _ z=>z) (fun _ _ _ _ _ z=>z) (fun _ z=>z) (fun _ z=>z) (fun _ z=>z) (fun _ _ _ _ _ _ _ _ z=>z) (fun _ _ _ _ z=>z) (fun x0 _ f _=>f x0) (fun _ z=>z) (fun _=>(fun _ z=>z)) (fun _ _ _=>(fun _ z=>z)) (fun _ _=>(fun _ z=>z)) v f z
theorem ya {f:KV→Prop}{z:Prop}{v:KV}(h:QQ f z v):(∃ x0,v=.tup x0∧f x0)∨((∀ x0,v≠.tup x0)∧z):=by
 cases v<;>first | exact .inl ⟨_,rfl,h⟩ | exact .inr ⟨by intros; simp,h⟩
def zh1 (f:Prop) (z:Prop) (v:KV):Prop:=@KV.rec (fun _=>(Prop)→Prop→Prop) (fun _ _ _ z=>z) (fun _ _ z=>z) (fun _ _ _ z=>z) (fun _ z=>z) (fun _ _ _ _ _ z=>z) (fun _ _ _ _ z=>z) (fun _ _ _ _ _ _ z=>z) (fun _ z=>z) (fun _ _ _ _ _ _ _ _ _ z=>z) (fun _ _ _ _ _ _ _ _ _ _ _ z=>z) (fun _ _ _ _ z=>z) (fun _ _ _ _ z=>z) (fun _ _ _ _ _ _ _ z=>z) (fun _ _ _ _ _ z=>z) (fun f _=>f) (fun _ z=>z) (fun _ z=>z) (fun _ _ _ _ _ _ _ _ z=>z) (fun _ _ _ _ z=>z) (fun _ _ _ z=>z) (fun _ z=>z) (fun _=>(fun _ z=>z)) (fun _ _ _=>(fun _ z=>z)) (fun _ _=>(fun _ z=>z)) v f z
theorem zb6 {f:Prop}{z:Prop}{v:KV}(h:zh1 f z v):(v=.nilp∧f)∨((v≠.nilp)∧z):=by
 cases v with
 | int _ _=>exact .inr ⟨by simp,h⟩
 | bool _=>exact .inr ⟨by simp,h⟩
 | str _ _=>exact .inr ⟨by simp,h⟩
 | nl=>exact .inr ⟨by simp,h⟩
 | cons _ _=>exact .inr ⟨by simp,h⟩
 | pk _ _ _=>exact .inr ⟨by simp,h⟩
 | ar _ _ _=>exact .inr ⟨by simp,h⟩
 | te=>exact .inr ⟨by simp,h⟩
 | tb _ _ _ _=>exact .inr ⟨by simp,h⟩
 | tn _ _ _ _ _=>exact .inr ⟨by simp,h⟩
 | ptr _ _ _=>exact .inr ⟨by simp,h⟩
 | row _ _ _=>exact .inr ⟨by simp,h⟩
 | sl _ _ _ _ _ _=>exact .inr ⟨by simp,h⟩
 | ref _ _ _=>exact .inr ⟨by simp,h⟩
 | nilp=>exact .inl ⟨rfl,h⟩
 | nils=>exact .inr ⟨by simp,h⟩
 | nilf=>exact .inr ⟨by simp,h⟩
 | ro _ _ _ _ _ _=>exact .inr ⟨by simp,h⟩
 | fn _ _=>exact .inr ⟨by simp,h⟩
 | tup _=>exact .inr ⟨by simp,h⟩
 | unk=>exact .inr ⟨by simp,h⟩
 | yld _=>exact .inr ⟨by simp,h⟩
 | fa _ _=>exact .inr ⟨by intros; simp,h⟩
 | clo _=>exact .inr ⟨by intros; simp,h⟩
def wH (f:Prop) (z:Prop) (v:KV):Prop:=@KV.rec (fun _=>(Prop)→Prop→Prop) (fun _ _ _ z=>z) (fun _ _ z=>z) (fun _ _ _ z=>z) (fun _ z=>z) (fun _ _ _ _ _ z=>z) (fun _ _ _ _ z=>z) (fun _ _ _ _ _ _ z=>z) (fun _ z=>z) (fun _ _ _ _ _ _ _ _ _ z=>z) (fun _ _ _ _ _ _ _ _ _ _ _ z=>z) (fun _ _ _ _ z=>z) (fun _ _ _ _ z=>z) (fun _ _ _ _ _ _ _ z=>z) (fun _ _ _ _ _ z=>z) (fun _ z=>z) (fun f _=>f) (fun _ z=>z) (fun _ _ _ _ _ _ _ _ z=>z) (fun _ _ _ _ z=>z) (fun _ _ _ z=>z) (fun _ z=>z) (fun _=>(fun _ z=>z)) (fun _ _ _=>(fun _ z=>z)) (fun _ _=>(fun _ z=>z)) v f z
theorem vk {f:Prop}{z:Prop}{v:KV}(h:wH f z v):(v=.nils∧f)∨((v≠.nils)∧z):=by
 cases v with
 | int _ _=>exact .inr ⟨by simp,h⟩
 | bool _=>exact .inr ⟨by simp,h⟩
 | str _ _=>exact .inr ⟨by simp,h⟩
 | nl=>exact .inr ⟨by simp,h⟩
 | cons _ _=>exact .inr ⟨by simp,h⟩
 | pk _ _ _=>exact .inr ⟨by simp,h⟩
 | ar _ _ _=>exact .inr ⟨by simp,h⟩
 | te=>exact .inr ⟨by simp,h⟩
 | tb _ _ _ _=>exact .inr ⟨by simp,h⟩
 | tn _ _ _ _ _=>exact .inr ⟨by simp,h⟩
 | ptr _ _ _=>exact .inr ⟨by simp,h⟩
 | row _ _ _=>exact .inr ⟨by simp,h⟩
 | sl _ _ _ _ _ _=>exact .inr ⟨by simp,h⟩
 | ref _ _ _=>exact .inr ⟨by simp,h⟩
 | nilp=>exact .inr ⟨by simp,h⟩
 | nils=>exact .inl ⟨rfl,h⟩
 | nilf=>exact .inr ⟨by simp,h⟩
 | ro _ _ _ _ _ _=>exact .inr ⟨by simp,h⟩
 | fn _ _=>exact .inr ⟨by simp,h⟩
 | tup _=>exact .inr ⟨by simp,h⟩
 | unk=>exact .inr ⟨by simp,h⟩
 | yld _=>exact .inr ⟨by simp,h⟩
 | fa _ _=>exact .inr ⟨by intros; simp,h⟩
 | clo _=>exact .inr ⟨by intros; simp,h⟩
def zh2 (f:Nat→Prop) (z:Prop) (v:KV):Prop:=@KV.rec (fun _=>(Nat→Prop)→Prop→Prop) (fun _ _ _ z=>z) (fun _ _ z=>z) (fun _ _ _ z=>z) (fun _ z=>z) (fun _ _ _ _ _ z=>z) (fun _ _ _ _ z=>z) (fun _ _ _ _ _ _ z=>z) (fun _ z=>z) (fun _ _ _ _ _ _ _ _ _ z=>z) (fun _ _ _ _ _ _ _ _ _ _ _ z=>z) (fun _ _ _ _ z=>z) (fun _ _ _ _ z=>z) (fun _ _ _ _ _ _ _ z=>z) (fun _ _ _ _ _ z=>z) (fun _ z=>z) (fun _ z=>z) (fun _ z=>z) (fun _ _ _ _ _ _ _ _ z=>z) (fun _ _ _ _ z=>z) (fun _ _ _ z=>z) (fun _ z=>z) (fun x0 f _=>f x0) (fun _ _ _=>(fun _ z=>z)) (fun _ _=>(fun _ z=>z)) v f z
theorem zfK {f:Nat→Prop}{z:Prop}{v:KV}(h:zh2 f z v):(∃ x0,v=.yld x0∧f x0)∨((∀ x0,v≠.yld x0)∧z):=by
 cases v<;>first | exact .inl ⟨_,rfl,h⟩ | exact .inr ⟨by intros; simp,h⟩
def Jh (f:Nat→(Nat→KV)→Prop) (z:Prop) (v:KV):Prop:=@KV.rec (fun _=>(Nat→(Nat→KV)→Prop)→Prop→Prop) (fun _ _ _ z=>z) (fun _ _ z=>z) (fun _ _ _ z=>z) (fun _ z=>z) (fun _ _ _ _ _ z=>z) (fun _ _ _ _ z=>z) (fun _ _ _ _ _ _ z=>z) (fun _ z=>z) (fun _ _ _ _ _ _ _ _ _ z=>z) (fun _ _ _ _ _ _ _ _ _ _ _ z=>z) (fun _ _ _ _ z=>z) (fun _ _ _ _ z=>z) (fun _ _ _ _ _ _ _ z=>z) (fun _ _ _ _ _ z=>z) (fun _ z=>z) (fun _ z=>z) (fun _ z=>z) (fun _ _ _ _ _ _ _ _ z=>z) (fun _ _ _ _ z=>z) (fun _ _ _ z=>z) (fun _ z=>z) (fun _ _ z=>z) (fun x0 x1 _ f _=>f x0 x1) (fun _ _ _ z=>z) v f z
theorem jU {f:Nat→(Nat→KV)→Prop}{z:Prop}{v:KV}(h:Jh f z v):(∃ x0 x1,v=.fa x0 x1∧f x0 x1)∨((∀ x0 x1,v≠.fa x0 x1)∧z):=by
 cases v<;>first | exact .inl ⟨_,_,rfl,h⟩ | exact .inr ⟨by intros; simp,h⟩
def Qc (f:Prop) (z:Prop) (v:KV):Prop:=@KV.rec (fun _=>(Prop)→Prop→Prop) (fun _ _ _ z=>z) (fun _ _ z=>z) (fun _ _ _ z=>z) (fun f _=>f) (fun _ _ _ _ _ z=>z) (fun _ _ _ _ z=>z) (fun _ _ _ _ _ _ z=>z) (fun _ z=>z) (fun _ _ _ _ _ _ _ _ _ z=>z) (fun _ _ _ _ _ _ _ _ _ _ _ z=>z) (fun _ _ _ _ z=>z) (fun _ _ _ _ z=>z) (fun _ _ _ _ _ _ _ z=>z) (fun _ _ _ _ _ z=>z) (fun _ z=>z) (fun _ z=>z) (fun _ z=>z) (fun _ _ _ _ _ _ _ _ z=>z) (fun _ _ _ _ z=>z) (fun _ _ _ z=>z) (fun _ z=>z) (fun _=>(fun _ z=>z)) (fun _ _ _=>(fun _ z=>z)) (fun _ _=>(fun _ z=>z)) v f z
theorem jc {f:Prop}{z:Prop}{v:KV}(h:Qc f z v):(v=.nl∧f)∨((v≠.nl)∧z):=by
 cases v with
 | int _ _=>exact .inr ⟨by simp,h⟩
 | bool _=>exact .inr ⟨by simp,h⟩
 | str _ _=>exact .inr ⟨by simp,h⟩
 | nl=>exact .inl ⟨rfl,h⟩
 | cons _ _=>exact .inr ⟨by simp,h⟩
 | pk _ _ _=>exact .inr ⟨by simp,h⟩
 | ar _ _ _=>exact .inr ⟨by simp,h⟩
 | te=>exact .inr ⟨by simp,h⟩
 | tb _ _ _ _=>exact .inr ⟨by simp,h⟩
 | tn _ _ _ _ _=>exact .inr ⟨by simp,h⟩
 | ptr _ _ _=>exact .inr ⟨by simp,h⟩
 | row _ _ _=>exact .inr ⟨by simp,h⟩
 | sl _ _ _ _ _ _=>exact .inr ⟨by simp,h⟩
 | ref _ _ _=>exact .inr ⟨by simp,h⟩
 | nilp=>exact .inr ⟨by simp,h⟩
 | nils=>exact .inr ⟨by simp,h⟩
 | nilf=>exact .inr ⟨by simp,h⟩
 | ro _ _ _ _ _ _=>exact .inr ⟨by simp,h⟩
 | fn _ _=>exact .inr ⟨by simp,h⟩
 | tup _=>exact .inr ⟨by simp,h⟩
 | unk=>exact .inr ⟨by simp,h⟩
 | yld _=>exact .inr ⟨by simp,h⟩
 | fa _ _=>exact .inr ⟨by intros; simp,h⟩
 | clo _=>exact .inr ⟨by intros; simp,h⟩
def wd (k:IntKind):Nat:=@IntKind.rec (fun _=>Nat) 8 16 32 64 8 16 32 64 k
theorem zh3 (k:IntKind):mdl k=2 ^ wd k:=by cases k<;>rfl
def dec (k:IntKind) (r:Nat):Int:=@Bool.rec (fun _=>Int) (.ofNat r) (@Bool.rec (fun _=>Int) (.negSucc (mdl k - 1 - r)) (.ofNat r) (Nat.blt r (hlf k))) (sgn k)
def zl2 (k:IntKind) (a:Int):Nat:=@Int.rec (fun _=>Nat) (fun m=>m) (fun m=>mdl k - 1 - m) a
def inR (k:IntKind) (a:Int):Bool:=@Int.rec (fun _=>Bool) (fun m=>Nat.blt m (@Bool.rec (fun _=>Nat) (mdl k) (hlf k) (sgn k))) (fun m=>@Bool.rec (fun _=>Bool) false (Nat.blt m (hlf k)) (sgn k)) a
theorem xZ {a b:Nat}:Nat.blt a b=true↔a < b:=by rw[Nat.blt_eq]
theorem zq9 {a b:Nat}(h:¬ a < b):Nat.blt a b=false:=by rw[←Bool.not_eq_true,Nat.blt_eq]; exact h
theorem zdP (k:IntKind):hlf k * 2=mdl k:=by cases k<;>rfl
theorem zvR {k:IntKind}{a:Int}(h:inR k a=true):dec k (zl2 k a)=a∧zl2 k a < mdl k:=by
 have hh:=zdP k
 cases a with
 | ofNat m =>
  have h1:Nat.blt m (@Bool.rec (fun _=>Nat) (mdl k) (hlf k) (sgn k))=true:=h
  show dec k m=_∧m < mdl k
  unfold dec
  cases hs:sgn k with
  | false=>rw[hs] at h1; exact⟨rfl,xZ.1 h1⟩
  | true =>
   rw[hs] at h1
   have h2:Nat.blt m (hlf k)=true:=h1
   refine⟨?_,by have:=xZ.1 h2; omega⟩
   show @Bool.rec (fun _=>Int) (.negSucc (mdl k - 1 - m)) (.ofNat m) (Nat.blt m (hlf k))=_
   rw[h2]
 | negSucc m =>
  have h1:@Bool.rec (fun _=>Bool) false (Nat.blt m (hlf k)) (sgn k)=true:=h
  show dec k (mdl k - 1 - m)=_∧mdl k - 1 - m < mdl k
  unfold dec
  cases hs:sgn k with
  | false=>rw[hs] at h1; cases h1
  | true =>
   rw[hs] at h1
   have h2:m < hlf k:=xZ.1 h1
   refine⟨?_,by omega⟩
   show @Bool.rec (fun _=>Int) (.negSucc (mdl k - 1 - (mdl k - 1 - m))) (.ofNat (mdl k - 1 - m)) (Nat.blt (mdl k - 1 - m) (hlf k))=_
   rw[zq9 (by omega)]
   show Int.negSucc _=_
   congr 1; omega
def bts (x o l:Nat):Nat:=Nat.mod (Nat.shiftRight x o) (Nat.pow 2 l)
def btp (x o l y:Nat):Nat:=Nat.xor x (Nat.shiftLeft (Nat.xor (bts x o l) y) o)
theorem xb (x o l b:Nat):(bts x o l).testBit b=(decide (b < l)&&x.testBit (o + b)):=by
 show ((x >>> o) % 2 ^ l).testBit b=_
 rw[Nat.testBit_mod_two_pow,Nat.testBit_shiftRight]
theorem zh4 (x o l:Nat):bts x o l < 2 ^ l:=Nat.mod_lt _ (Nat.two_pow_pos l)
theorem zdQ {y l b:Nat}(hy:y < 2 ^ l) (h:l≤b):y.testBit b=false:=Nat.testBit_lt_two_pow (Nat.lt_of_lt_of_le hy (Nat.pow_le_pow_right (by omega) h))
theorem zdR {x o l y:Nat}(hy:y < 2 ^ l) (b:Nat):(btp x o l y).testBit b=if o≤b∧b < o + l then y.testBit (b - o) else x.testBit b:=by
 show (x ^^^ ((bts x o l ^^^ y) <<< o)).testBit b=_
 rw[Nat.testBit_xor,Nat.testBit_shiftLeft,Nat.testBit_xor,xb]
 by_cases h1:o≤b
 ·by_cases h2:b < o + l
  ·rw[if_pos ⟨h1,h2⟩]
   have h3:b - o < l:=by omega
   rw[show o + (b - o)=b by omega]
   simp [h1,h3]
  ·rw[if_neg (by omega),zdQ hy (by omega)]
   have h3:¬ b - o < l:=by omega
   simp [h3]
 ·rw[if_neg (by omega)]
  simp [h1]
theorem zl3 {x o l y:Nat}(hy:y < 2 ^ l) (o' l':Nat):bts (btp x o l y) o' l'=if o≤o'∧o' + l'≤o + l then bts y (o' - o) l' else if o' + l'≤o∨o + l≤o' then bts x o' l' else bts (btp x o l y) o' l':=by
 split
 ·rename_i h
  apply Nat.eq_of_testBit_eq; intro b
  rw[xb,xb,zdR hy]
  by_cases hb:b < l'
  ·rw[if_pos (by omega),show o' - o + b=o' + b - o by omega]
  ·simp [hb]
 ·split
  ·apply Nat.eq_of_testBit_eq; intro b
   rw[xb,xb,zdR hy]
   by_cases hb:b < l'
   ·rw[if_neg (by omega)]
   ·simp [hb]
  ·rfl
theorem zl4 {x o l o' l':Nat}(h:o' + l'≤l):bts (bts x o l) o' l'=bts x (o + o') l':=by
 apply Nat.eq_of_testBit_eq; intro b
 rw[xb,xb,xb]
 by_cases hb:b < l'
 ·rw[show o + (o' + b)=o + o' + b by omega]
  have:o' + b < l:=by omega
  simp [hb,this]
 ·simp [hb]
def pkr (k:IntKind) (x i:Nat):Nat:=bts x (Nat.mul (wd k) i) (wd k)
def pkg (k:IntKind) (x i:Nat):Int:=dec k (pkr k x i)
def pkx (k:IntKind) (x off len:Nat):Nat:=bts x (Nat.mul (wd k) off) (Nat.mul (wd k) len)
def pkp (k:IntKind) (x off len y:Nat):Nat:=btp x (Nat.mul (wd k) off) (Nat.mul (wd k) len) y
theorem zh5 (k:IntKind) (x off len:Nat):pkx k x off len < 2 ^ (wd k * len):=zh4 _ _ _
theorem v3 {k:IntKind}{x off len j:Nat}(h:j < len):pkr k (pkx k x off len) j=pkr k x (off + j):=by
 have h1:wd k * (j + 1)≤wd k * len:=Nat.mul_le_mul_left _ h
 have h2:wd k * (j + 1)=wd k * j + wd k:=Nat.mul_succ _ _
 have h3:wd k * (off + j)=wd k * off + wd k * j:=Nat.mul_add _ _ _
 show bts (bts x (wd k * off) (wd k * len)) (wd k * j) (wd k)=bts x (wd k * (off + j)) (wd k)
 rw[zl4 (by omega),h3]
theorem zdS {k:IntKind}{x off len y:Nat}(hy:y < 2 ^ (wd k * len)) (j:Nat):pkr k (pkp k x off len y) j=if off≤j∧j < off + len then pkr k y (j - off) else pkr k x j:=by
 show bts (btp x (wd k * off) (wd k * len) y) (wd k * j) (wd k)=if off≤j∧j < off + len then bts y (wd k * (j - off)) (wd k) else bts x (wd k * j) (wd k)
 rw[zl3 hy]
 by_cases h:off≤j∧j < off + len
 ·have h1:wd k * off≤wd k * j:=Nat.mul_le_mul_left _ h.1
  have h2:wd k * (j + 1)≤wd k * (off + len):=Nat.mul_le_mul_left _ h.2
  have h3:wd k * (j + 1)=wd k * j + wd k:=Nat.mul_succ _ _
  have h4:wd k * (off + len)=wd k * off + wd k * len:=Nat.mul_add _ _ _
  have h5:wd k * (j - off)=wd k * j - wd k * off:=Nat.mul_sub _ _ _
  rw[if_pos h,if_pos (by omega),h5]
 ·rw[if_neg h]
  have h6:wd k * j + wd k≤wd k * off∨wd k * off + wd k * len≤wd k * j:=by
   by_cases h7:j < off
   ·left
    have:=Nat.mul_le_mul_left (wd k) (show j + 1≤off from h7)
    rw[Nat.mul_succ] at this; exact this
   ·right
    have:=Nat.mul_le_mul_left (wd k) (show off + len≤j by omega)
    rw[Nat.mul_add] at this; exact this
  by_cases h8:wd k * off≤wd k * j∧wd k * j + wd k≤wd k * off + wd k * len
  ·exfalso
   have:0 < wd k:=by cases k<;>decide
   omega
  ·rw[if_neg h8,if_pos h6]
theorem qi (k:IntKind) (x i:Nat):pkr k x i < mdl k:=by rw[zh3]; exact zh4 _ _ _
theorem zh6 {k:IntKind}{y:Nat}(hy:y < 2 ^ wd k):pkr k y 0=y:=by
 show bts y (wd k * 0) (wd k)=y
 rw[Nat.mul_zero]
 exact Nat.mod_eq_of_lt hy
def pks (k:IntKind) (x i:Nat) (a:Int):Nat:=btp x (Nat.mul (wd k) i) (wd k) (zl2 k a)
theorem zl5 {k:IntKind}{x i:Nat}{a:Int}(h:inR k a=true) (j:Nat):pkg k (pks k x i a) j=if j=i then a else pkg k x j:=by
 obtain⟨h1,h2⟩:=zvR h
 rw[zh3] at h2
 have h3:pks k x i a=pkp k x i 1 (zl2 k a):=by unfold pks pkp; rw[show Nat.mul (wd k) 1=wd k from Nat.mul_one _]
 unfold pkg
 rw[h3,zdS (by rw[Nat.mul_one]; exact h2)]
 by_cases hj:j=i
 ·subst hj
  rw[if_pos ⟨Nat.le_refl _,by omega⟩,if_pos rfl,Nat.sub_self,zh6 h2,h1]
 ·rw[if_neg (by omega),if_neg hj]
theorem zh7 (k:IntKind) (i:Nat):pkg k 0 i=0:=by
 have:pkr k 0 i=0:=by
  show bts 0 (wd k * i) (wd k)=0
  apply Nat.eq_of_testBit_eq; intro b
  rw[xb]; simp
 unfold pkg
 rw[this]
 cases k<;>rfl
def zL (n x:Nat):ByteArray:=⟨⟨(List.range n).map fun i=>UInt8.ofNat (pkr .u8 x i)⟩⟩
def zvS (g:Dg) (a b c d:Pth→V→V):Pth→V→V:=@Dg.rec (fun _=>Pth→V→V) a b c d g
def Xv (v:V):V:=@ite _ (v.bel 0∧v.fits .sc=true∧v.known=true) (Classical.propDecidable _) v .nilp
theorem Ji (v:V):(Xv v).bel 0∧(Xv v).fits .sc=true∧(Xv v).known=true:=by
 unfold Xv
 split
 ·assumption
 ·exact⟨trivial,rfl,rfl⟩
theorem zdT {v:V}(h1:v.bel 0) (h2:v.fits .sc=true) (h3:v.known=true):Xv v=v:=by
 unfold Xv
 exact if_pos ⟨h1,h2,h3⟩
theorem zaR (v:V) (k:Nat):(Xv v).fld k=.unk:=by
 have h:=(Ji v).2.1
 generalize Xv v=w at h
 cases w<;>first | (cases h; done) | (cases k<;>rfl)
theorem zh8 (v:V) (i:Nat):(Xv v).step (.idx i)=.unk:=by
 have h:=(Ji v).2.1
 generalize Xv v=w at h
 cases w<;>first | (cases h; done) | rfl
def KV.vt:KV→V×(Pth→V→V)
 | .int k n=>(.int k n,fun _ z=>z)
 | .bool b=>(.bool b,fun _ z=>z)
 | .str n x=>(.str (zL n x),fun _ z=>z)
 | .nl=>(.nl,fun _ z=>z)
 | .cons h t=>(.cons h.vt.1 t.vt.1,fun _ z=>z)
 | .pk k n x=>(.arr n fun i=>.int k (pkg k x i),fun _ z=>z)
 | .ar n d t=>(.arr n fun i=>t.vt.2 (enc i) d.vt.1,fun _ z=>z)
 | .te=>(.unk,fun _ z=>z)
 | .tb a b c d=>(.unk,fun p z=>match p with | []=>z | g::p=>zvS g a.vt.2 b.vt.2 c.vt.2 d.vt.2 p z)
 | .tn x a b c d=>(.unk,fun p z=>match p with | []=>x.vt.1 | g::p=>zvS g a.vt.2 b.vt.2 c.vt.2 d.vt.2 p z)
 | .ptr id p s=>(.ptr id p s,fun _ z=>z)
 | .row id s n=>(.row id s n,fun _ z=>z)
 | .sl id p s off len cap=>(.sl id p s off len cap,fun _ z=>z)
 | .ref w s c=>(.ref w s c.vt.1,fun _ z=>z)
 | .nilp=>(.nilp,fun _ z=>z)
 | .nils=>(.nils,fun _ z=>z)
 | .nilf=>(.nilf,fun _ z=>z)
 | .ro w clip s off len c=>(.ro w clip s len fun i=>c.vt.1.step (.idx (off + i)),fun _ z=>z)
 | .fn f cap=>(.fn f cap.vt.1,fun _ z=>z)
 | .tup l=>(.tup l.vt.1,fun _ z=>z)
 | .unk=>(.unk,fun _ z=>z)
 | .yld id=>(.yld id,fun _ z=>z)
 | .fa n f=>(.arr n fun i=>(f i).vt.1,fun _ z=>z)
 | .clo x=>(Xv x.vt.1,fun _ z=>z)
def KV.v (x:KV):V:=x.vt.1
def KV.atv (t:KV) (p:Pth) (z:V):V:=t.vt.2 p z
section
variable (k:IntKind) (i n x id off len:Nat) (a:Int) (b w clip:Bool) (h t d l c u:KV) (p:List Step) (s:Shape) (cap:Option Nat) (f:FuncId)
theorem yC:(KV.int k a).v=.int k a:=rfl
theorem Xw:(KV.bool b).v=.bool b:=rfl
theorem zdU:(KV.str n x).v=.str (zL n x):=rfl
theorem zb7:(KV.cons h t).v=.cons h.v t.v:=rfl
theorem wI:(KV.pk k n x).v=.arr n fun i=>.int k (pkg k x i):=rfl
theorem ZM:(KV.ar n d t).v=.arr n fun i=>t.atv (enc i) d.v:=rfl
theorem zaS:(KV.ptr id p s).v=.ptr id p s:=rfl
theorem zh9:(KV.row id s n).v=.row id s n:=rfl
theorem zl6:(KV.sl id p s off len cap).v=.sl id p s off len cap:=rfl
theorem QR:(KV.ref w s c).v=.ref w s c.v:=rfl
theorem zia:KV.nilp.v=.nilp:=rfl
theorem zib:KV.nils.v=.nils:=rfl
theorem Xx:(KV.ro w clip s off len c).v=.ro w clip s len fun i=>c.v.step (.idx (off + i)):=rfl
theorem v_fn:(KV.fn f c).v=.fn f c.v:=rfl
theorem Xy (g:Nat→KV):(KV.fa n g).v=.arr n fun i=>(g i).v:=rfl
theorem zvT:(KV.clo c).v=Xv c.v:=rfl
end
def zov (g:Dg) (a b c d:KV):KV:=@Dg.rec (fun _=>KV) a b c d g
def zra (z:KV) (p:Pth):KV→KV:=@List.rec Dg (fun _=>KV→KV)
 (fun t=>@KV.rec (fun _=>KV) (fun _ _=>z) (fun _=>z) (fun _ _=>z) z (fun _ _ _ _=>z) (fun _ _ _=>z) (fun _ _ _ _ _=>z) z (fun _ _ _ _ _ _ _ _=>z) (fun x _ _ _ _ _ _ _ _ _=>x) (fun _ _ _=>z) (fun _ _ _=>z) (fun _ _ _ _ _ _=>z) (fun _ _ _ _=>z) z z z (fun _ _ _ _ _ _ _=>z) (fun _ _ _=>z) (fun _ _=>z) z (fun _=>z) (fun _ _ _=>z) (fun _ _=>z) t)
 (fun g _ ih t=>@KV.rec (fun _=>KV) (fun _ _=>z) (fun _=>z) (fun _ _=>z) z (fun _ _ _ _=>z) (fun _ _ _=>z) (fun _ _ _ _ _=>z) z (fun a b c d _ _ _ _=>ih (zov g a b c d)) (fun _ a b c d _ _ _ _ _=>ih (zov g a b c d)) (fun _ _ _=>z) (fun _ _ _=>z) (fun _ _ _ _ _ _=>z) (fun _ _ _ _=>z) z z z (fun _ _ _ _ _ _ _=>z) (fun _ _ _=>z) (fun _ _=>z) z (fun _=>z) (fun _ _ _=>z) (fun _ _=>z) t) p
theorem zb8 (z:KV):∀(p:Pth) (t:KV),(zra z p t).v=t.atv p z.v
 | [],t=>by cases t<;>rfl
 | g::p,t=>by
  have ih:=zb8 z p
  cases t with
  | tb a b c d=>cases g<;>exact ih _
  | tn x a b c d=>cases g<;>exact ih _
  | _=>rfl
def zdV (f:KV→KV→KV) (z:KV) (v:KV):KV:=@KV.rec (fun _=>(KV→KV→KV)→KV→KV) (fun _ _ _ z=>z) (fun _ _ z=>z) (fun _ _ _ z=>z) (fun _ z=>z) (fun x0 x1 _ _ f _=>f x0 x1) (fun _ _ _ _ z=>z) (fun _ _ _ _ _ _ z=>z) (fun _ z=>z) (fun _ _ _ _ _ _ _ _ _ z=>z) (fun _ _ _ _ _ _ _ _ _ _ _ z=>z) (fun _ _ _ _ z=>z) (fun _ _ _ _ z=>z) (fun _ _ _ _ _ _ _ z=>z) (fun _ _ _ _ _ z=>z) (fun _ z=>z) (fun _ z=>z) (fun _ z=>z) (fun _ _ _ _ _ _ _ _ z=>z) (fun _ _ _ _ z=>z) (fun _ _ _ z=>z) (fun _ z=>z) (fun _=>(fun _ z=>z)) (fun _ _ _=>(fun _ z=>z)) (fun _ _=>(fun _ z=>z)) v f z
def zow (f:IntKind→Nat→Nat→KV) (z:KV) (v:KV):KV:=@KV.rec (fun _=>(IntKind→Nat→Nat→KV)→KV→KV) (fun _ _ _ z=>z) (fun _ _ z=>z) (fun _ _ _ z=>z) (fun _ z=>z) (fun _ _ _ _ _ z=>z) (fun x0 x1 x2 f _=>f x0 x1 x2) (fun _ _ _ _ _ _ z=>z) (fun _ z=>z) (fun _ _ _ _ _ _ _ _ _ z=>z) (fun _ _ _ _ _ _ _ _ _ _ _ z=>z) (fun _ _ _ _ z=>z) (fun _ _ _ _ z=>z) (fun _ _ _ _ _ _ _ z=>z) (fun _ _ _ _ _ z=>z) (fun _ z=>z) (fun _ z=>z) (fun _ z=>z) (fun _ _ _ _ _ _ _ _ z=>z) (fun _ _ _ _ z=>z) (fun _ _ _ z=>z) (fun _ z=>z) (fun _=>(fun _ z=>z)) (fun _ _ _=>(fun _ z=>z)) (fun _ _=>(fun _ z=>z)) v f z
def zox (f:Nat→KV→KV→KV) (z:KV) (v:KV):KV:=@KV.rec (fun _=>(Nat→KV→KV→KV)→KV→KV) (fun _ _ _ z=>z) (fun _ _ z=>z) (fun _ _ _ z=>z) (fun _ z=>z) (fun _ _ _ _ _ z=>z) (fun _ _ _ _ z=>z) (fun x0 x1 x2 _ _ f _=>f x0 x1 x2) (fun _ z=>z) (fun _ _ _ _ _ _ _ _ _ z=>z) (fun _ _ _ _ _ _ _ _ _ _ _ z=>z) (fun _ _ _ _ z=>z) (fun _ _ _ _ z=>z) (fun _ _ _ _ _ _ _ z=>z) (fun _ _ _ _ _ z=>z) (fun _ z=>z) (fun _ z=>z) (fun _ z=>z) (fun _ _ _ _ _ _ _ _ z=>z) (fun _ _ _ _ z=>z) (fun _ _ _ z=>z) (fun _ z=>z) (fun _=>(fun _ z=>z)) (fun _ _ _=>(fun _ z=>z)) (fun _ _=>(fun _ z=>z)) v f z
def zoy (f:Nat→(Nat→KV)→KV) (z:KV) (v:KV):KV:=@KV.rec (fun _=>(Nat→(Nat→KV)→KV)→KV→KV) (fun _ _ _ z=>z) (fun _ _ z=>z) (fun _ _ _ z=>z) (fun _ z=>z) (fun _ _ _ _ _ z=>z) (fun _ _ _ _ z=>z) (fun _ _ _ _ _ _ z=>z) (fun _ z=>z) (fun _ _ _ _ _ _ _ _ _ z=>z) (fun _ _ _ _ _ _ _ _ _ _ _ z=>z) (fun _ _ _ _ z=>z) (fun _ _ _ _ z=>z) (fun _ _ _ _ _ _ _ z=>z) (fun _ _ _ _ _ z=>z) (fun _ z=>z) (fun _ z=>z) (fun _ z=>z) (fun _ _ _ _ _ _ _ _ z=>z) (fun _ _ _ _ z=>z) (fun _ _ _ z=>z) (fun _ z=>z) (fun _=>(fun _ z=>z)) (fun x0 x1 _ f _=>f x0 x1) (fun _ _ _ z=>z) v f z
section
variable [Gl]
def fN (m:Nat) (K:Nat→Prop):Prop:=@Bool.rec (fun _=>Prop) (K m) (zW m K) Gl.cl
theorem zU (m:Nat) (K:Nat→Prop):fN m K=K m:=by
 unfold fN
 cases Gl.cl
 ·rfl
 ·exact zZ m K
def fI (m:Int) (K:Int→Prop):Prop:=@Bool.rec (fun _=>Prop) (K m) (@Int.rec (fun _=>Prop) (fun n=>zW n fun n=>K (.ofNat n)) (fun n=>zW n fun n=>K (.negSucc n)) m) Gl.cl
theorem jV (m:Int) (K:Int→Prop):fI m K=K m:=by
 unfold fI
 cases Gl.cl
 ·rfl
 ·cases m
  ·exact zZ _ _
  ·exact zZ _ _
def fB (b:Bool) (K:Bool→Prop):Prop:=@Bool.rec (fun _=>Prop) (K b) (@Bool.rec (fun _=>Prop) (K false) (K true) b) Gl.cl
theorem Jj (b:Bool) (K:Bool→Prop):fB b K=K b:=by
 unfold fB
 cases Gl.cl
 ·rfl
 ·cases b<;>rfl
def fV (v:KV) (K:KV→Prop):Prop:=@KV.rec (fun _=>(KV→Prop)→Prop) (fun x0 x1 K=>fI x1 fun x1=>K (.int x0 x1)) (fun x0 K=>fB x0 fun x0=>K (.bool x0)) (fun x0 x1 K=>fN x0 fun x0=>fN x1 fun x1=>K (.str x0 x1)) (fun K=>K (.nl)) (fun x0 x1 _ _ K=>K (.cons x0 x1)) (fun x0 x1 x2 K=>fN x2 fun x2=>K (.pk x0 x1 x2)) (fun x0 x1 x2 _ _ K=>K (.ar x0 x1 x2)) (fun K=>K (.te)) (fun x0 x1 x2 x3 _ _ _ _ K=>K (.tb x0 x1 x2 x3)) (fun x0 x1 x2 x3 x4 _ _ _ _ _ K=>K (.tn x0 x1 x2 x3 x4)) (fun x0 x1 x2 K=>K (.ptr x0 x1 x2)) (fun x0 x1 x2 K=>K (.row x0 x1 x2)) (fun x0 x1 x2 x3 x4 x5 K=>K (.sl x0 x1 x2 x3 x4 x5)) (fun x0 x1 x2 _ K=>K (.ref x0 x1 x2)) (fun K=>K (.nilp)) (fun K=>K (.nils)) (fun K=>K (.nilf)) (fun x0 x1 x2 x3 x4 x5 _ K=>K (.ro x0 x1 x2 x3 x4 x5)) (fun x0 x1 _ K=>K (.fn x0 x1)) (fun x0 _ K=>K (.tup x0)) (fun K=>K (.unk)) (fun x0=>fun K=>K (.yld x0)) (fun x0 x1 _ K=>K (.fa x0 x1)) (fun x0 _ K=>K (.clo x0)) v K
theorem xC (v:KV) (K:KV→Prop):fV v K=K v:=by
 cases v with
 | int k n=>exact jV n (fun x1=>K (.int k x1))
 | bool b=>exact Jj b (fun b=>K (.bool b))
 | pk k n x=>exact zU x (fun x=>K (.pk k n x))
 | str n x=>exact (zU n (fun n=>fN x fun x=>K (.str n x))).trans (zU x (fun x=>K (.str n x)))
 | _=>rfl
end
def xD (x:KV):Pth→KV→KV
 | [],.tb a b c d=>.tn x a b c d
 | [],.tn _ a b c d=>.tn x a b c d
 | [],_=>.tn x .te .te .te .te
 | .a::p,.tb a b c d=>.tb (xD x p a) b c d
 | .b::p,.tb a b c d=>.tb a (xD x p b) c d
 | .c::p,.tb a b c d=>.tb a b (xD x p c) d
 | .d::p,.tb a b c d=>.tb a b c (xD x p d)
 | .a::p,.tn y a b c d=>.tn y (xD x p a) b c d
 | .b::p,.tn y a b c d=>.tn y a (xD x p b) c d
 | .c::p,.tn y a b c d=>.tn y a b (xD x p c) d
 | .d::p,.tn y a b c d=>.tn y a b c (xD x p d)
 | .a::p,_=>.tb (xD x p .te) .te .te .te
 | .b::p,_=>.tb .te (xD x p .te) .te .te
 | .c::p,_=>.tb .te .te (xD x p .te) .te
 | .d::p,_=>.tb .te .te .te (xD x p .te)
theorem QS (x:KV) (z:V):∀(p:Pth) (t:KV),(xD x p t).atv p z=x.v
 | [],t=>by cases t<;>rfl
 | g::p,t=>by
  have ih:=QS x z p
  cases t<;>cases g<;>exact ih _
theorem zdW (x:KV) (z:V):∀(p q:Pth) (t:KV),p≠q→(xD x q t).atv p z=t.atv p z
 | [],[],t,h=>absurd rfl h
 | [],g::q,t,_=>by cases t<;>cases g<;>rfl
 | g::p,[],t,_=>by cases t<;>first | rfl | (cases g<;>rfl)
 | g::p,g'::q,t,h=>by
  by_cases hg:g=g'
  ·subst hg
   have ih:=fun t=>zdW x z p q t (fun e=>h (by rw[e]))
   cases t<;>cases g<;>exact ih _
  ·cases t<;>cases g<;>cases g'<;>first | exact absurd rfl hg | rfl
theorem jD (x:KV) (z:V) (i j:Nat) (t:KV):(xD x (enc j) t).atv (enc i) z=if i=j then x.v else t.atv (enc i) z:=by
 by_cases h:i=j
 ·subst h; rw[if_pos rfl,QS]
 ·rw[if_neg h,zdW x z _ _ t (zgG h)]
def ks4 (g:Dg) (ih:KV→(KV→Prop)→Prop) (a b c d:KV) (M:KV→KV→KV→KV→Prop):Prop:=@Dg.rec (fun _=>Prop) (ih a fun a=>M a b c d) (ih b fun b=>M a b c d) (ih c fun c=>M a b c d) (ih d fun d=>M a b c d) g
def zdX (x:KV) (p:Pth):KV→(KV→Prop)→Prop:=@List.rec Dg (fun _=>KV→(KV→Prop)→Prop) (fun t K=>@KV.rec (fun _=>Prop) (fun _ _=>K (.tn x .te .te .te .te)) (fun _=>K (.tn x .te .te .te .te)) (fun _ _=>K (.tn x .te .te .te .te)) (K (.tn x .te .te .te .te)) (fun _ _ _ _=>K (.tn x .te .te .te .te)) (fun _ _ _=>K (.tn x .te .te .te .te)) (fun _ _ _ _ _=>K (.tn x .te .te .te .te)) (K (.tn x .te .te .te .te)) (fun x0 x1 x2 x3 _ _ _ _=>K (.tn x x0 x1 x2 x3)) (fun x0 x1 x2 x3 x4 _ _ _ _ _=>K (.tn x x1 x2 x3 x4)) (fun _ _ _=>K (.tn x .te .te .te .te)) (fun _ _ _=>K (.tn x .te .te .te .te)) (fun _ _ _ _ _ _=>K (.tn x .te .te .te .te)) (fun _ _ _ _=>K (.tn x .te .te .te .te)) (K (.tn x .te .te .te .te)) (K (.tn x .te .te .te .te)) (K (.tn x .te .te .te .te)) (fun _ _ _ _ _ _ _=>K (.tn x .te .te .te .te)) (fun _ _ _=>K (.tn x .te .te .te .te)) (fun _ _=>K (.tn x .te .te .te .te)) (K (.tn x .te .te .te .te)) (fun _=>(K (.tn x .te .te .te .te))) (fun _ _ _=>(K (.tn x .te .te .te .te))) (fun _ _=>(K (.tn x .te .te .te .te))) t) (fun g _ ih t K=>@KV.rec (fun _=>Prop) (fun _ _=>ks4 g ih .te .te .te .te fun a b c d=>K (.tb a b c d)) (fun _=>ks4 g ih .te .te .te .te fun a b c d=>K (.tb a b c d)) (fun _ _=>ks4 g ih .te .te .te .te fun a b c d=>K (.tb a b c d)) (ks4 g ih .te .te .te .te fun a b c d=>K (.tb a b c d)) (fun _ _ _ _=>ks4 g ih .te .te .te .te fun a b c d=>K (.tb a b c d)) (fun _ _ _=>ks4 g ih .te .te .te .te fun a b c d=>K (.tb a b c d)) (fun _ _ _ _ _=>ks4 g ih .te .te .te .te fun a b c d=>K (.tb a b c d)) (ks4 g ih .te .te .te .te fun a b c d=>K (.tb a b c d)) (fun x0 x1 x2 x3 _ _ _ _=>ks4 g ih x0 x1 x2 x3 fun a b c d=>K (.tb a b c d)) (fun x0 x1 x2 x3 x4 _ _ _ _ _=>ks4 g ih x1 x2 x3 x4 fun a b c d=>K (.tn x0 a b c d)) (fun _ _ _=>ks4 g ih .te .te .te .te fun a b c d=>K (.tb a b c d)) (fun _ _ _=>ks4 g ih .te .te .te .te fun a b c d=>K (.tb a b c d)) (fun _ _ _ _ _ _=>ks4 g ih .te .te .te .te fun a b c d=>K (.tb a b c d)) (fun _ _ _ _=>ks4 g ih .te .te .te .te fun a b c d=>K (.tb a b c d)) (ks4 g ih .te .te .te .te fun a b c d=>K (.tb a b c d)) (ks4 g ih .te .te .te .te fun a b c d=>K (.tb a b c d)) (ks4 g ih .te .te .te .te fun a b c d=>K (.tb a b c d)) (fun _ _ _ _ _ _ _=>ks4 g ih .te .te .te .te fun a b c d=>K (.tb a b c d)) (fun _ _ _=>ks4 g ih .te .te .te .te fun a b c d=>K (.tb a b c d)) (fun _ _=>ks4 g ih .te .te .te .te fun a b c d=>K (.tb a b c d)) (ks4 g ih .te .te .te .te fun a b c d=>K (.tb a b c d)) (fun _=>(ks4 g ih .te .te .te .te fun a b c d=>K (.tb a b c d))) (fun _ _ _=>(ks4 g ih .te .te .te .te fun a b c d=>K (.tb a b c d))) (fun _ _=>(ks4 g ih .te .te .te .te fun a b c d=>K (.tb a b c d))) t) p
theorem Jk (x:KV):∀(p:Pth) (t:KV) (K:KV→Prop),zdX x p t K=K (xD x p t)
 | [],t,K=>by cases t<;>rfl
 | g::p,t,K=>by
  have ih:=Jk x p
  cases t<;>cases g<;>exact ih _ _
def qa (n:Nat) (p:Nat→Bool):Bool:=@decide (∀ i,i < n→p i=true) (Classical.propDecidable _)
def zdY (p:Nat→Bool):Bool:=@decide (∀ i,p i=true) (Classical.propDecidable _)
theorem Xz {p:Nat→Bool}:zdY p=true↔∀ i,p i=true:=@decide_eq_true_iff _ (Classical.propDecidable _)
theorem xE {n:Nat}{p:Nat→Bool}:qa n p=true↔∀ i,i < n→p i=true:=@decide_eq_true_iff _ (Classical.propDecidable _)
def zic (k:Nat):KV→KV:=@Nat.rec (fun _=>KV→KV) (fun v=>zdV (fun a _=>a) .unk v) (fun _ ih v=>zdV (fun _ b=>ih b) .unk v) k
theorem W6:∀(k:Nat) (v:KV),(zic k v).v=v.v.fld k
 | 0,v=>by cases v<;>first | rfl | exact (zaR _ _).symm
 | k + 1,v=>by
  have ih:=W6 k
  cases v<;>first | exact ih _ | rfl | exact (zaR _ _).symm
def zoz (t:KV):Bool:=match t with
 | .te=>true
 | _=>false
def jW (d:KV) (i:Nat) (t:KV):KV:=@Bool.rec (fun _=>KV) (zra d (enc i) t) d (zoz t)
theorem ZN (d:KV) (i:Nat) (t:KV):(jW d i t).v=t.atv (enc i) d.v:=by
 unfold jW
 cases h:zoz t with
 | false=>exact zb8 d (enc i) t
 | true=>cases t<;>first | rfl | cases h
def zQ (i:Nat) (v:KV):KV:=zow (fun k _ x=>.int k (pkg k x i)) (zox (fun _ d t=>jW d i t) (zoy (fun _ f=>f i) .unk v) v) v
theorem xU (i:Nat) (v:KV):(zQ i v).v=v.v.step (.idx i):=by
 cases v with
 | ar n d t=>exact ZN d i t
 | clo x=>exact (zh8 _ _).symm
 | _=>rfl
def arT (f:Nat→KV) (n:Nat):KV:=@Nat.rec (fun _=>KV) .te (fun i t=>xD (f i) (enc i) t) n
theorem y5 (f:Nat→KV) (z:V):∀ n i,i < n→(arT f n).atv (enc i) z=(f i).v
 | 0,i,h=>absurd h (Nat.not_lt_zero i)
 | n + 1,i,h=>by
  show (xD (f n) (enc n) (arT f n)).atv (enc i) z=_
  rw[jD]
  by_cases e:i=n
  ·rw[if_pos e,e]
  ·rw[if_neg e]
   exact y5 f z n i (by omega)
def zBw (off n:Nat) (v:KV):KV:=zow (fun k _ x=>.pk k n (Nat.shiftRight x (Nat.mul (wd k) off))) (zox (fun _ d t=>.fa n fun i=>jW d (Nat.add off i) t) (zoy (fun _ f=>.fa n fun i=>f (Nat.add off i)) .unk v) v) v
def zaT (v:KV) (s:Step):KV:=@Step.rec (fun _=>KV) (fun k=>zic k v) (fun i=>zQ i v) (fun off n=>zBw off n v) s
def zvU (v:KV):Bool:=match v with
 | .pk _ _ _=>true
 | .fa _ _=>true
 | .ar _ _ _=>true
 | _=>false
def zdZ (v:KV) (s:Step):Bool:=@Step.rec (fun _=>Bool) (fun _=>true) (fun _=>true) (fun _ _=>zvU v) s
theorem zl7 (v:KV) (s:Step) (hs:zdZ v s=true):(zaT v s).v=v.v.step s:=by
 cases s with
 | fld k=>exact W6 k v
 | idx i=>exact xU i v
 | sub off n =>
  cases v<;>first | (cases hs; done) | rfl | skip
  rotate_left
  ·rename_i m d t
   show V.arr n (fun i=>(jW d (off + i) t).v)=V.arr n fun i=>t.atv (enc (off + i)) d.v
   congr 1
   funext i
   exact ZN d (off + i) t
  rename_i k m x
  show V.arr n (fun i=>.int k (pkg k (Nat.shiftRight x (Nat.mul (wd k) off)) i))=V.arr n fun i=>.int k (pkg k x (off + i))
  congr 1
  funext i
  have:pkr k (Nat.shiftRight x (Nat.mul (wd k) off)) i=pkr k x (off + i):=by
   apply Nat.eq_of_testBit_eq; intro q
   show (bts (Nat.shiftRight x (Nat.mul (wd k) off)) (Nat.mul (wd k) i) (wd k)).testBit q=(bts x (Nat.mul (wd k) (off + i)) (wd k)).testBit q
   rw[xb,xb]
   congr 1
   show (x >>> (wd k * off)).testBit (wd k * i + q)=x.testBit (wd k * (off + i) + q)
   rw[Nat.testBit_shiftRight]
   congr 1
   rw[Nat.mul_add]; omega
  unfold pkg
  rw[this]
def yF (p:List Step):KV→Bool:=@List.rec Step (fun _=>KV→Bool) (fun _=>true) (fun s _ ih v=>@Bool.rec (fun _=>Bool) false (ih (zaT v s)) (zdZ v s)) p
def jd (p:List Step):KV→KV:=@List.rec Step (fun _=>KV→KV) (fun v=>v) (fun s _ ih v=>ih (zaT v s)) p
theorem v4:∀(p:List Step) (v:KV),yF p v=true→(jd p v).v=v.v.path p
 | [],v,_=>rfl
 | s::p,v,h=>by
  have h0:@Bool.rec (fun _=>Bool) false (yF p (zaT v s)) (zdZ v s)=true:=h
  cases hs:zdZ v s with
  | false=>rw[hs] at h0; cases h0
  | true =>
   rw[hs] at h0
   show (jd p (zaT v s)).v=(v.v.step s).path p
   rw[v4 p _ h0,zl7 _ _ hs]
section
variable [Gl]
def zid (k:Nat) (u:KV→(KV→Prop)→Prop):KV→(KV→Prop)→Prop:=@Nat.rec (fun _=>KV→(KV→Prop)→Prop) (fun v K=>xN (fun a b=>u a fun a=>K (.cons a b)) (BadN 20) v) (fun _ ih v K=>xN (fun a b=>ih b fun b=>K (.cons a b)) (BadN 20) v) k
def zBx (p:List Step):Bool:=@List.rec Step (fun _=>Bool) true (fun _ _ _=>false) p
def ifN (j i:Nat) (a b:KV):KV:=@Bool.rec (fun _=>KV) b a (Nat.beq j i)
omit [Gl] in
theorem jp (j i:Nat) (a b:KV):ifN j i a b=if j=i then a else b:=by
 unfold ifN
 by_cases h:j=i
 ·subst h; rw[Nat.beq_refl,if_pos rfl]
 ·rw[if_neg h]
  have:Nat.beq j i=false:=by
   cases hb:Nat.beq j i with
   | false=>rfl
   | true=>exact absurd (Nat.eq_of_beq_eq_true hb) h
  rw[this]
def zoA (x:KV) (r:List Step) (i:Nat) (ih:KV→(KV→Prop)→Prop) (v:KV) (K:KV→Prop):Prop :=
 wh (fun k n y=>z8 (fun k' a=>cnd (xa k k'&&inR k a&&zBx r) (fN (pks k y i a) fun y=>K (.pk k n y))) (BadN 21) x)
  (W5 (fun n d t=>ih (zra d (enc i) t) fun y=>zdX y (enc i) t fun t=>K (.ar n d t)) (Jh (fun n f=>ih (f i) fun y=>K (.fa n fun j=>ifN j i y (f j))) (BadN 22) v) v) v
def Jl (x:KV) (p:List Step):KV→(KV→Prop)→Prop:=@List.rec Step (fun _=>KV→(KV→Prop)→Prop) (fun _ K=>K x) (fun s r ih v K=>@Step.rec (fun _=>Prop) (fun k=>zid k ih v K) (fun i=>zoA x r i ih v K) (fun _ _=>BadN 252) s) p
omit [Gl] in
theorem zd0 {u:KV→(KV→Prop)→Prop}{g:V→V}(hu:∀ v K,u v K→∃ v',K v'∧v'.v=g v.v):∀(k:Nat) (v:KV) (K:KV→Prop),zid k u v K→∃ v',K v'∧v'.v=v.v.setFld k g
 | 0,v,K,h=>by
  rcases xh (show xN (fun a b=>u a fun a=>K (.cons a b)) (BadN 20) v from h) with ⟨a,b,rfl,h1⟩ | ⟨_,h1⟩
  ·obtain⟨a',h2,h3⟩:=hu _ _ h1
   exact⟨_,h2,by rw[zb7,h3]; rfl⟩
  ·exact h1.elim
 | k + 1,v,K,h=>by
  rcases xh (show xN (fun a b=>zid k u b fun b=>K (.cons a b)) (BadN 20) v from h) with ⟨a,b,rfl,h1⟩ | ⟨_,h1⟩
  ·obtain⟨b',h2,h3⟩:=zd0 hu k _ _ h1
   exact⟨_,h2,by rw[zb7,h3]; rfl⟩
  ·exact h1.elim
theorem qQ (x:KV):∀(p:List Step) (v:KV) (K:KV→Prop),Jl x p v K→∃ v',K v'∧v'.v=V.set p x.v v.v
 | [],v,K,h=>⟨x,h,rfl⟩
 | .fld k::p,v,K,h=>zd0 (qQ x p) k v K h
 | .idx i::p,v,K,h=>by
  have h0:zoA x p i (Jl x p) v K:=h
  rcases xp h0 with ⟨k,n,y,rfl,h1⟩ | ⟨_,h1⟩
  ·rcases zz h1 with ⟨k',a,rfl,h2⟩ | ⟨_,h2⟩
   ·obtain⟨h3,h4⟩:=za.1 h2
    rw[zU] at h4
    simp only[Bool.and_eq_true] at h3
    obtain rfl:=zD h3.1.1
    refine⟨_,h4,?_⟩
    have hp:p=[]:=by cases p with | nil=>rfl | cons _ _=>cases h3.2
    subst hp
    show V.arr n _=V.arr n fun j=>V.ite (j==i) (.int k a) (.int k (pkg k y j))
    congr 1
    funext j
    rw[zl5 h3.1.2,V.ite_eq]
    by_cases hj:j=i
    ·subst hj; simp
    ·have:(j==i)=false:=by simpa using hj
     rw[if_neg hj,this]; rfl
   ·exact h2.elim
  ·rcases jb h1 with ⟨n,d,t,rfl,h2⟩ | ⟨_,h2⟩
   ·obtain⟨y,h3,h4⟩:=qQ x p _ _ h2
    rw[Jk] at h3
    refine⟨_,h3,?_⟩
    rw[ZM,ZM]
    show V.arr n _=V.arr n fun j=>V.ite (j==i) (V.set p x.v (t.atv (enc j) d.v)) (t.atv (enc j) d.v)
    congr 1
    funext j
    rw[jD,V.ite_eq,h4,zb8]
    by_cases hj:j=i
    ·subst hj; simp
    ·have:(j==i)=false:=by simpa using hj
     rw[if_neg hj,this]; rfl
   ·rcases jU h2 with ⟨n,f,rfl,h2⟩ | ⟨_,h2⟩
    ·obtain⟨y,h3,h4⟩:=qQ x p _ _ h2
     refine⟨_,h3,?_⟩
     rw[Xy,Xy]
     show V.arr n _=V.arr n fun j=>V.ite (j==i) (V.set p x.v (f j).v) (f j).v
     congr 1
     funext j
     rw[jp,V.ite_eq]
     by_cases hj:j=i
     ·subst hj; simp [h4]
     ·have:(j==i)=false:=by simpa using hj
      rw[if_neg hj,this]; rfl
    ·exact h2.elim
 | .sub _ _::p,v,K,h=>(show BadN 252 from h).elim
end
end
end Go.K
namespace Go.K
open Go.Ab Go.RowKit Go.Y
noncomputable section
section
variable {P:Program}{F:Fence}{n:Nat}{Q:Exit→Act→World→Prop}{a:Act}{w:World}
theorem V4 {c:Code}(I:Nat→Act→World→Prop) (n₀:Nat) (h₀:I n₀ a w) (round:∀ k a w,I k a w→c.wpIn F n P (Exit.then (fun a' w'=>∃ k',k' < k∧I k' a' w') Q) a w):(Code.loop c).wpIn F n P Q a w:=by
 refine wpIn_loop (fun a w=>∃ k,I k a w) (fun a w=>leastOf fun k=>I k a w) ⟨n₀,h₀⟩ fun a w hI=>wpIn_mono (round _ a w (leastOf_spec hI).1) ?_
 intro e a' w' hq
 cases e with
 | normal=>obtain⟨k',hlt,hI'⟩:=hq; exact⟨⟨k',hI'⟩,Nat.lt_of_le_of_lt ((leastOf_spec ⟨k',hI'⟩).2 _ hI') hlt⟩
 | _=>exact hq
theorem zlL {c:Code}(h:c.wpIn F n P (Exit.noGoto Q) a w):(Code.scope c).wpIn F n P Q a w:=by
 intro b k cs hro hb hr
 have h0:(lone (b.atR a (.code (.scope c)::k)) cs w).fenced P F:=fenced_calm hb hr rfl
 have hs:step P (lone (b.atR a (.code (.scope c)::k)) cs w)=.next (lone (b.atR a (.code c::.inScope c::k)) cs w):=step_lone_go (by simp [stepG,stepG.exec,Frame.atR])
 obtain⟨e,a₁,w₁,hq,harr⟩:=h b (.inScope c::k) cs hro hb hr
 cases e with
 | normal =>
  have hs2:step P (lone (b.atR a₁ (.inScope c::k)) cs w₁)=.next (lone (b.atR a₁ k) cs w₁):=step_lone_go (by simp [stepG,stepG.exec,Frame.atR])
  exact⟨.normal,a₁,w₁,hq,.head h0 hs (StepsIn.trans harr (.one (fenced_calm (fr:=b.atR a₁ (.inScope c::k)) hb hr rfl) hs2))⟩
 | exit id =>
  have hx:exitTo id (.inScope c::k)=exitTo id k:=by simp [exitTo]
  exact⟨_,a₁,w₁,hq,fun k' hk=>.head h0 hs (harr.1 k' (by rw[hx]; exact hk)),fun hr' hk=>let ⟨k₁,h1,h2⟩:=harr.2 hr' (by rw[hx]; exact hk); ⟨k₁,h1,.head h0 hs h2⟩⟩
 | goto l=>exact hq.elim
 | ret=>exact⟨_,a₁,w₁,hq,.of_steps (.one h0 hs) harr⟩
 | panic ch=>exact⟨_,a₁,w₁,hq,.of_steps (.one h0 hs) harr⟩
 | outgrown=>exact⟨_,a₁,w₁,hq,.of_steps (b:=b) (k:=k) (cs:=cs) (e:=.outgrown) (.one h0 hs) harr⟩
def vv (w:World) (l:Nat) (o:Obj):World:={ w with heap:=w.heap.setIfInBounds l o }
theorem QN {l:Nat}{o:Obj}(h:l < w.heap.size):(vv w l o).heap[l]?=some o:=by simp [vv,h]
theorem qN {l k:Nat}{o:Obj}(h:k≠l):(vv w l o).heap[k]?=w.heap[k]?:=by simp [vv,Array.getElem?_setIfInBounds_ne (Ne.symm h)]
theorem Xo {l:Nat}{o:Obj}:(vv w l o).heap.size=w.heap.size:=by simp [vv]
theorem wE {l:Nat}{r:Loop}(h:w.heap[l]?=some (.loop r)):(Instr.getLoop l).run P w=.ok r w:=by
 have:(getObj l).run P w=.ok (.loop r) w:=by simp [getObj,Sem.run,h]
 simp [Instr.getLoop,Sem.run_bind,this,Result.andThen]
theorem V5 {l:Nat}{r:Loop}(o:Obj) (h:w.heap[l]?=some (.loop r)):(setObj l o).run P w=.ok () (vv w l o):=by simp [setObj,Sem.run,h,vv]
theorem zaJ (fn:FuncId) (tmps:Array Value) (ps:Array Tmp) (a b:Code) :
  (Instr.enterLoop fn tmps ps a b none).run P w=.ok (w.heap.size + 1,[{ target:=.collected w.heap.size,args:=#[] }]) ((w.alloc (.deferred (some []))).alloc (.loop ⟨.ready,none,fn,tmps,ps,a,b,w.heap.size⟩)):=by
 unfold Instr.enterLoop
 simp only[Sem.run_bind,run_newObj_alloc,Result.andThen,Sem.run_pure,World.size_alloc]
theorem zaK {l:Nat}{r:Loop}(h:w.heap[l]?=some (.loop r)) (fn:FuncId) (tmps:Array Value) (ps:Array Tmp) (a b:Code) :
  (Instr.enterLoop fn tmps ps a b (some l)).run P w=.ok (w.heap.size,[]) (w.alloc (.loop ⟨.ready,none,fn,tmps,ps,a,b,r.defers⟩)):=by
 unfold Instr.enterLoop
 simp only[Sem.run_bind,wE h,run_newObj_alloc,Result.andThen,Sem.run_pure]
theorem zfD {l:Nat}{r:Loop}{args:Array Value}(h:w.heap[l]?=some (.loop r)) (hs:args.size=r.params.size) :
  (Instr.yield l args).run P w=.ok (.round l r.fn ((r.params.zip args).foldl (fun tmps (t,a)=>tmps.setIfInBounds t a) r.tmps) r.assign r.body) w:=by
 simp [Instr.yield,Sem.run_bind,wE h,Result.andThen,hs]
theorem zfE {l:Nat}{r:Loop}(h:w.heap[l]?=some (.loop r)) (hr:r.state=.ready):(Instr.beginRound l).run P w=.ok () (vv w l (.loop { r with state:=.busy })):=by
 simp [Instr.beginRound,Sem.run_bind,wE h,V5 _ h,Result.andThen,hr]
theorem zlM {l:Nat}{r:Loop}(j:Option Code) (h:w.heap[l]?=some (.loop r)) :
  (Instr.endRound l j).run P w=.ok (.bool j.isNone) (vv w l (.loop { r with state:=if j.isNone then .ready else .done,pending:=j })):=by
 simp [Instr.endRound,Sem.run_bind,wE h,V5 _ h,Result.andThen]
theorem zlN {l:Nat}{r:Loop}(h:w.heap[l]?=some (.loop r)) (hb:r.state≠.busy):(Instr.endLoop l).run P w=.ok r.pending (vv w l (.loop { r with state:=.exhausted })):=by
 simp [Instr.endLoop,Sem.run_bind,wE h,V5 _ h,Result.andThen,hb]
theorem zhA {D:Nat}(h:w.heap[D]?=some (.deferred (some []))):(Instr.takeDeferred D).run P w=.ok [] (vv w D (.deferred none)):=by
 simp [Instr.takeDeferred,Sem.run_bind,getObj,setObj,Sem.run,h,Result.andThen,vv]
def jmp:Exit→Option (Option Code)
 | .normal=>some none
 | .ret=>some (some .ret)
 | .exit i=>some (some (.exit i))
 | _=>none
theorem zhB {ro:Option Nat}{l:Nat}{f:FuncId}{tmps:Array Value}{x y:Code}{R:Ending→World→Prop}
  (h:x.wpIn (FR (some l)) 0 P (fun e a₁ w₁=>e=.normal∧∃ w₂,(Instr.beginRound l).run P w₁=.ok () w₂∧y.wpIn (FR (some l)) 0 P (fun e a w=>∃ j v w',jmp e=some j∧(Instr.endRound l j).run P w=.ok v w'∧R (.returned v) w') a₁ w₂) { tmps:=tmps,defers:=[] } w) :
  RoundIn (FR ro) 0 P l f tmps x y w R:=by
 refine⟨trivial,fun c cs hr=>?_⟩
 let b:Frame:={ (default:Frame) with fn:=f,kind:=.normal,roundOf:=some l }
 have hb0:Frame.round l f tmps x y .normal=b.atR { tmps:=tmps,defers:=[] } [.code x,.beginRound,.code y]:=by simp [Frame.round,Frame.atR,b]
 have hr':(FR (some l)).room ((c::cs).length + 1 + 0):=fun d hd=>by cases hd
 obtain⟨e,a₁,w₁,hq,harr⟩:=h b [.beginRound,.code y] (c::cs) rfl trivial hr'
 rw[←hb0] at harr
 obtain⟨rfl,w₂,hbr,hbody⟩:=hq
 have s1:StepsIn (Machine.fenced P (FR (some l))) P (lone (b.atR a₁ [.beginRound,.code y]) (c::cs) w₁) (lone (b.atR a₁ [.code y]) (c::cs) w₂) :=
  .one (fenced_calm (n:=0) (fr:=b.atR a₁ [.beginRound,.code y]) trivial hr' rfl) (stepR_beginRound rfl hbr)
 obtain⟨e₂,a₂,w₃,⟨j,v,w₄,hj,hend,hR⟩,harr₂⟩:=hbody b [] (c::cs) rfl trivial hr'
 refine⟨.returned v,w₄,hR,?_⟩
 show StepsIn (Machine.fenced P (FR (some l))) P (lone (Frame.round l f tmps x y .normal) (c::cs) w) (lone (c.finish v) cs w₄)
 cases e₂ with
 | normal =>
  obtain rfl:none=j:=Option.some.inj hj
  exact (StepsIn.trans harr s1).trans (StepsIn.trans harr₂ (.one (fenced_calm (n:=0) (fr:=b.atR a₂ []) trivial hr' rfl) (stepR_round_end rfl rfl hend)))
 | ret =>
  obtain rfl:some .ret=j:=Option.some.inj hj
  obtain⟨k₁,hs⟩:=harr₂.2 rfl
  exact (StepsIn.trans harr s1).trans (StepsIn.trans hs (.one (fenced_calm (n:=0) (fr:=b.atR a₂ (.code .ret::k₁)) trivial hr' rfl) (stepR_round_ret rfl rfl hend)))
 | exit id =>
  obtain rfl:some (.exit id)=j:=Option.some.inj hj
  obtain⟨k₁,hk,hs⟩:=harr₂.2 rfl rfl
  exact (StepsIn.trans harr s1).trans (StepsIn.trans hs (.one (fenced_calm (n:=0) (fr:=b.atR a₂ (.code (.exit id)::k₁)) trivial hr' rfl) (stepR_round_exit rfl rfl hk hend)))
 | goto t=>cases hj
 | panic chain=>cases hj
 | outgrown=>cases hj
theorem zhC {ro:Option Nat}{g:Operand}{ps:Array Tmp}{x y:Code}
  (h:∀ fn,∃ l mark w₁ gf lb,(Instr.enterLoop fn a.tmps ps x y ro).run P w=.ok (l,mark) w₁∧a.eval g=.func (.func gf) #[] lb∧(∀ args w,(callFunc gf args).run P w=.ok (.enter gf args) w) ∧
   Calls P gf (#[.func (.yield l) #[] #[]]++lb) w₁ fun e w₃=>∃ v j w₄,e=.returned v∧(Instr.endLoop l).run P w₃=.ok j w₄∧match j with
    | none=>Q .normal { a with defers:=mark++a.defers } w₄
    | some c=>c.wpIn (FR ro) 0 P Q { a with defers:=mark++a.defers } w₄) :
  (Code.rangeFunc g ps x y).wpIn (FR ro) 0 P Q a w:=by
 intro b k cs hro hb hr
 obtain⟨l,mark,w₁,gf,lb,he,hg,hcf,hcall⟩:=h b.fn
 have hro':b.roundOf=ro:=hro
 rw[←hro'] at he
 have h0:(lone (b.atR a (.code (.rangeFunc g ps x y)::k)) cs w).fenced P (FR ro):=fenced_lone (.inl trivial) (fun _ _=>trivial) (fun d hd=>by cases hd)
 have hres:(resolve a.eval ({ callee:=.value g,args:=#[.const (.func (.yield l) #[] #[])],argTypes:=#[] }:Call) 0).run P w₁=.ok { target:=.fn (.func gf) lb,args:=#[.func (.yield l) #[] #[]] } w₁:=by
  simp only[resolve,hg]
  simp [go_sem]
 have hinv:(invoke (.fn (.func gf) lb) #[.func (.yield l) #[] #[]]).run P w₁=.ok (.enter gf (#[.func (.yield l) #[] #[]]++lb)) w₁:=by simp [invoke,go_sem,hcf]
 have henter:step P (lone (b.atR a (.code (.rangeFunc g ps x y)::k)) cs w)=.next (lone (Frame.enter P gf (#[.func (.yield l) #[] #[]]++lb) .normal) (b.atR { a with defers:=mark++a.defers } (.inRangeFunc l::k)::cs) w₁) :=
  step_lone_go (by
   have hev:=Frame.eval_atR b { a with defers:=mark++a.defers } (.inRangeFunc l::k)
   simp only[Frame.atR] at hev
   have hres':Sem.run P (resolve ({ tmps:=a.tmps,defers:=mark++a.defers }:Act).eval { callee:=.value g,args:=#[.const (.func (.yield l) #[] #[])],argTypes:=#[] } 0) w₁=.ok { target:=.fn (.func gf) lb,args:=#[.func (.yield l) #[] #[]] } w₁:=hres
   simp [stepG,stepG.exec,Frame.atR,Sem.runT_eq,he,GStep.bare_after,stepG.apply,hev,Sem.run_bind,hres',hinv,Result.andThen])
 obtain⟨e,w₃,fr,⟨v,j,w₄,rfl,hend,hj⟩,hsteps,hfn,hleave⟩:=hcall (b.atR { a with defers:=mark++a.defers } (.inRangeFunc l::k)::cs)
 have hS:StepsIn (Machine.fenced P (FR ro)) P (lone (Frame.enter P gf (#[.func (.yield l) #[] #[]]++lb) .normal) (b.atR { a with defers:=mark++a.defers } (.inRangeFunc l::k)::cs) w₁) (lone fr (b.atR { a with defers:=mark++a.defers } (.inRangeFunc l::k)::cs) w₃) :=
  show StepsIn (Machine.fenced P Fence.wide) P _ _ from stepsIn_wide.2 hsteps
 have hl:(lone fr (b.atR { a with defers:=mark++a.defers } (.inRangeFunc l::k)::cs) w₃).fenced P (FR ro):=fenced_wide P _
 have hfi:(b.atR { a with defers:=mark++a.defers } (.inRangeFunc l::k)).finish v=b.atR { a with defers:=mark++a.defers } (.endRangeFunc l::k):=by simp [Frame.finish,Frame.atR]
 have s2:step P (lone (b.atR { a with defers:=mark++a.defers } (.endRangeFunc l::k)) cs w₃)=.next (lone (b.atR { a with defers:=mark++a.defers } ((j.map Item.code).toList++k)) cs w₄) :=
  step_lone_go (by simp [stepG,stepG.exec,Frame.atR,Sem.runT_eq,hend,GStep.bare_after])
 have sback:StepsIn (Machine.fenced P (FR ro)) P (lone (b.atR a (.code (.rangeFunc g ps x y)::k)) cs w) (lone (b.atR { a with defers:=mark++a.defers } ((j.map Item.code).toList++k)) cs w₄):=by
  refine .head h0 henter (StepsIn.trans hS (.head hl ?_ (.one (fenced_wide P _) s2)))
  rw[←hfi]; exact step_leave_returned hleave
 cases j with
 | none=>exact⟨.normal,_,w₄,hj,sback⟩
 | some c =>
  obtain⟨e',a'',w₅,hq,harr⟩:=hj b k cs hro hb hr
  exact⟨e',a'',w₅,hq,.of_steps sback harr⟩
def V6 (P:Program) (fn:Func) (tmps:Array Value) (R:Ending→World→Prop):List Deferred→World→Prop
 | [],w=>∃ v,(results fn tmps).run P w=.ok v w∧R (.returned v) w
 | d::ds,w=>∃ D,d=⟨.collected D,#[]⟩∧w.heap[D]?=some (.deferred (some []))∧V6 P fn tmps R ds (vv w D (.deferred none))
theorem Xp {fn:Func}{tmps:Array Value}{R:Ending→World→Prop}{cs:List Frame}:∀(ds:List Deferred) (w:World) (fr:Frame),fr.mode=.returning→fr.defers=ds→fr.tmps=tmps→P.funcs[fr.fn]?=some fn→fr.kind=.normal→V6 P fn tmps R ds w →
  ∃ v w' fr',R (.returned v) w'∧Steps P (lone fr cs w) (lone fr' cs w')∧fr'.fn=fr.fn∧fr'.leaving P w' (.returned v)
 | [],w,fr,hm,hd,ht,hf,hk,h=>by
  obtain⟨v,h1,h2⟩:=h
  exact⟨v,w,fr,h2,.refl P _,rfl,hm,hd,hk,fn,hf,by rw[ht]; exact h1⟩
 | d::ds,w,fr,hm,hd,ht,hf,hk,h=>by
  obtain⟨D,rfl,h1,h2⟩:=h
  have hs:step P (lone fr cs w)=.next (lone { fr with defers:=ds } cs (vv w D (.deferred none))) :=
   step_lone_go (by simp [stepG,unwind,hm,hd,Sem.runT_eq,zhA h1,GStep.bare_after])
  obtain⟨v,w',fr',q1,q2,q3,q4⟩:=Xp ds _ { fr with defers:=ds } hm rfl ht hf hk h2
  exact⟨v,w',fr',q1,.head hs q2,q3,q4⟩
theorem yy {f:FuncId}{fn:Func}{c:Code}{args:Array Value}{R:Ending→World→Prop}(hf:P.funcs[f]?=some fn) (hb:fn.body=some c)
  (h:c.wpIn (FR none) 0 P (fun e a w=>(e=.normal∨e=.ret)∧V6 P fn a.tmps R a.defers w) { tmps:=args++Array.replicate (fn.ntmps - args.size) undef,defers:=[] } w):Calls P f args w R:=by
 intro cs
 let b:Frame:={ (default:Frame) with fn:=f,kind:=.normal,roundOf:=none }
 have henter:Frame.enter P f args .normal=b.atR { tmps:=args++Array.replicate (fn.ntmps - args.size) undef,defers:=[] } [.code c]:=by simp [Frame.enter,Frame.atR,hf,hb,b]
 obtain⟨e,a',w',⟨he,hq⟩,harr⟩:=h b [] cs rfl trivial (fun d hd=>by cases hd)
 rw[←henter] at harr
 rcases he with rfl | rfl
 ·obtain⟨v,w2,fr',q1,q2,q3,q4⟩:=Xp (cs:=cs) a'.defers w' { b.atR a' [] with mode:=.returning } rfl rfl rfl hf rfl hq
  exact⟨.returned v,w2,fr',q1,(StepsIn.steps harr).trans (.head (stepR_end rfl) q2),q3,q4⟩
 ·obtain⟨todo,hs⟩:=harr.1 rfl
  obtain⟨v,w2,fr',q1,q2,q3,q4⟩:=Xp (cs:=cs) a'.defers w' { b.atR a' todo with mode:=.returning } rfl rfl rfl hf rfl hq
  exact⟨.returned v,w2,fr',q1,(StepsIn.steps hs).trans q2,q3,q4⟩
end
end
end Go.K
namespace Go.Ab
open Go.RowKit Go.Y
variable [Gl]
def xT (ops:Array Oper):Nat→Oper→Nat→Bool
 | 0,o,k=>xd o k
 | f + 1,o,k=>xd o k||o.after.any fun e=>Region.binds .any e&&(match ops[e.on]? with | some o'=>xT ops f o' k | none=>false)
def edT (ops:Array Oper) (te:TE) (k:Nat):Bool:=xT ops 6 te.o k
omit [Gl] in
theorem Jf {ops:Array Oper}{te:TE}{k:Nat}(h:xH te k=true):edT ops te k=true:=by
 unfold edT xT
 rw[show xd te.o k=true from h]; rfl
omit [Gl] in
theorem qP {K X:Type}{wr:TE→K→Option X}{uses:TE→K→Prop}{ed ed':TE→Nat→Bool}(h:∀ te k,ed te k=true→ed' te k=true):∀ {tr:List TE},Apart wr uses ed tr→Apart wr uses ed' tr
 | [],_=>trivial
 | te::r,ha=>⟨qP h ha.1,fun l te' r' e hk=>h _ _ (ha.2 l te' r' e hk)⟩
omit [Gl] in
theorem vQ {ops:Array Oper}{f:Nat}{o:Oper}{k:Nat}(h:xT ops f o k=true):xd o k=true∨∃(j f':Nat) (o':Oper),xd o j=true∧ops[j]?=some o'∧xT ops f' o' k=true∧f' < f:=by
 cases f with
 | zero=>exact .inl h
 | succ f =>
  unfold xT at h
  rw[Bool.or_eq_true] at h
  rcases h with h | h
  ·exact .inl h
  ·right
   obtain⟨e,he,hb⟩:=Array.any_eq_true'.1 h
   rw[Bool.and_eq_true] at hb
   obtain⟨h1,h2⟩:=hb
   split at h2
   ·rename_i o' ho
    refine⟨e.on,f,o',?_,ho,h2,by omega⟩
    unfold xd
    exact Array.any_eq_true'.2 ⟨e,he,by simp [h1]⟩
   ·cases h2
theorem W3 {P:Program}{B:Nat}{G:Nat→V}{ops:Array Oper}{N:Nat}{tm0:Nat→V}{m0:Mem}{n0:Nat}{tr:List TE}{S:Nat→Bool}(hv:Valid P B G ops N tm0 m0 n0 tr) (hlen:tr.length=ops.size)
  (hback:∀ l te r,tr=l++te::r→∀ k,xH te k=true→k < r.length) (hc:xQ S xH tr):∀(f j k:Nat) (o:Oper),ops[j]?=some o→S j=true→xT ops f o k=true→S k=true:=by
 intro f
 induction f using Nat.strongRecOn with
 | _ f ih =>
 intro j k o ho hj hk
 have hlt:j < ops.size:=(Array.getElem?_eq_some_iff.1 ho).1
 obtain⟨l,te,r,e,hr⟩:=qA tr j (by omega)
 have hop:=(Valid.app (l:=l) (r:=te::r) (by rw[←e]; exact hv)).2.1
 rw[hr,ho] at hop
 have hte:o=te.o:=Option.some.inj hop
 have dir:∀ k,xd o k=true→S k=true:=fun k hk=>by
  have hk':xH te k=true:=by rw[hte] at hk; exact hk
  exact hc l te r e (by rw[hr]; exact hj) k (hback l te r e k hk') hk'
 rcases vQ hk with h1 | ⟨j',f',o',h1,h2,h3,h4⟩
 ·exact dir k h1
 ·exact ih f' h4 j' k o' h2 (dir j' h1) h3
omit [Gl] in
theorem zb5 {ops:Array Oper}{te:TE}{S:Nat→Bool}(hcl:∀(f j k:Nat) (o:Oper),ops[j]?=some o→S j=true→xT ops f o k=true→S k=true) (hd:∀ k,xH te k=true→S k=true) {k:Nat}(hk:edT ops te k=true):S k=true:=by
 rcases vQ hk with h1 | ⟨j',f',o',h1,h2,h3,h4⟩
 ·exact hd k h1
 ·exact hcl f' j' k o' h2 (hd j' h1) h3
theorem zaO {ro:Option Nat}{P:Program}{B:Nat}{C0:Ctx}{G:Nat→V}{ops:Array Oper}{N:Nat}{tm0:Nat→V}{m0:Mem}{n0:Nat}{tr:List TE}{Q:Exit→Act→World→Prop}
  (hv:Valid P B G ops N tm0 m0 n0 tr) (hlen:tr.length=ops.size) (hT:Apart wrT (YQ ops) xH tr) (hM:Apart wrM YR (edT ops) tr) (hback:∀ l te r,tr=l++te::r→∀ k,xH te k=true→k < r.length)
  (hal0:∀ id,n0≤id→id < jL n0 tr→¬ C0.al id) (hG:∀ g C,Keep C0 C→R C (G g) (.val (.pointer (some ⟨g,0,none⟩)))) (D:List Deferred)
  (hQ:∀ a C,a.defers=D→PS B C0 N tm0 m0 tr (fun _=>true) a C→Q .normal a C.w) :
  ∀(f:Nat) (listed:Array Bool) (a:Act) (C:Ctx),listed.size=ops.size→(List.range ops.size).countP (fun i=>!listed.getD i false)≤f→xQ (fun i=>listed.getD i false) xH tr→a.defers=D →
   PS B C0 N tm0 m0 tr (fun i=>listed.getD i false) a C→wpAnyIn (FR ro) 0 P .any ops Q f listed a C.w:=by
 have edge_of:∀ {l r:List TE}{te:TE},tr=l++te::r→∀ {o:Oper},ops[r.length]?=some o→o=te.o:=by
  intro l r te e o ho
  have:=(Valid.app (l:=l) (r:=te::r) (by rw[←e]; exact hv)).2.1
  rw[this] at ho; exact (Option.some.inj ho).symm
 have first:∀(listed:Array Bool),listed.size=ops.size→∀ i,i < ops.size→listed.getD i false=false→Region.ready .any ops listed≠[]:=by
  intro listed hz i
  induction i using Nat.strongRecOn with
  | _ i ih =>
   intro hi hun
   by_cases hall:∀ k,k < i→listed.getD k false=true
   ·obtain⟨l,te,r,e,hr⟩:=qA tr i (by omega)
    have hop:=(Valid.app (l:=l) (r:=te::r) (by rw[←e]; exact hv)).2.1
    rw[hr] at hop
    have:i∈Region.ready .any ops listed:=by
     refine mem_ready.2 ⟨?_,te.o,hop,fun x hx hb=>?_⟩
     ·simp [hz,hi] at hun ⊢; exact hun
     ·have h1:xH te x.on=true:=by
       unfold xH
       exact Array.any_eq_true'.2 ⟨x,hx,by simp [hb]⟩
      exact hall _ (by have:=hback l te r e _ h1; omega)
    intro h0; rw[h0] at this; cases this
   ·have⟨k,hk⟩:∃ k,k < i∧listed.getD k false=false:=by
     apply Classical.byContradiction
     intro hno
     refine hall fun k hk=>?_
     cases hkl:listed.getD k false with
     | true=>rfl
     | false=>exact absurd ⟨k,hk,hkl⟩ hno
    exact ih k hk.1 (by omega) hk.2
 have fin:∀(listed:Array Bool) (a:Act) (C:Ctx),listed.size=ops.size→a.defers=D→PS B C0 N tm0 m0 tr (fun i=>listed.getD i false) a C→Region.ready .any ops listed=[]→Q .normal a C.w:=by
  intro listed a C hz hD h h0
  have hS:∀ i,i < tr.length→listed.getD i false=true:=by
   intro i hi
   cases hl:listed.getD i false with
   | true=>rfl
   | false=>exact absurd h0 (first listed hz i (by omega) hl)
  refine hQ a C hD ?_
  have e1:look wrM m0 (fun i=>listed.getD i false) tr=look wrM m0 (fun _=>true) tr:=by funext k; exact vh k tr hS
  have e2:∀ t,look wrT tm0 (fun i=>listed.getD i false) tr t=look wrT tm0 (fun _=>true) tr t:=fun t=>vh t tr hS
  refine⟨h.kp,by rw[←e1]; exact h.sr,fun t=>by rw[←e2]; exact h.tm t,fun id hid=>?_,h.size⟩
  rcases h.al id hid with h1 | ⟨l,te,r,e,_,h2⟩
  ·exact .inl h1
  ·exact .inr ⟨l,te,r,e,rfl,h2⟩
 intro f
 induction f with
 | zero =>
  intro listed a C hz hcnt hc hD h
  have h0:Region.ready .any ops listed=[]:=by
   apply Classical.byContradiction
   intro hne
   obtain⟨i,hi⟩:=List.exists_mem_of_ne_nil _ hne
   obtain⟨hun,o,ho,_⟩:=mem_ready.1 hi
   have hlt:i < ops.size:=(Array.getElem?_eq_some_iff.1 ho).1
   have hun':listed.getD i false=false:=by simp [hz,hlt] at hun ⊢; exact hun
   have:0 < (List.range ops.size).countP (fun i=>!listed.getD i false):=List.countP_pos_iff.2 ⟨i,List.mem_range.2 hlt,by rw[hun']; rfl⟩
   omega
  exact⟨h0,fin listed a C hz hD h h0⟩
 | succ f ih =>
  intro listed a C hz hcnt hc hD h
  refine⟨fin listed a C hz hD h,fun i hi=>?_⟩
  obtain⟨hun,o,ho,hall⟩:=mem_ready.1 hi
  have hlt:i < ops.size:=(Array.getElem?_eq_some_iff.1 ho).1
  have hun':listed.getD i false=false:=by simp [hz,hlt] at hun ⊢; exact hun
  obtain⟨l,te,r,e,hr⟩:=qA tr i (by omega)
  subst hr
  have hte:=edge_of e ho
  subst hte
  have hS:∀ j,(listed.setIfInBounds r.length true).getD j false=(listed.getD j false||j==r.length):=by
   intro j
   by_cases hj:r.length=j
   ·subst hj; simp [hz,hlt]
   ·rw[getD_set_ne false hj]
    have:(j==r.length)=false:=by simp; omega
    rw[this,Bool.or_false]
  have hdeps:∀ k,k < r.length→xH te k=true→listed.getD k false=true:=by
   intro k _ hk
   unfold xH at hk
   obtain⟨x,hx,hb⟩:=Array.any_eq_true'.1 hk
   simp only[Bool.and_eq_true,beq_iff_eq] at hb
   rw[←hb.2]; exact hall x hx hb.1
  have hclT:∀(f j k:Nat) (o:Oper),ops[j]?=some o→listed.getD j false=true→xT ops f o k=true→listed.getD k false=true:=fun f j k o ho hj hk=>W3 (S:=fun i=>listed.getD i false) hv hlen hback hc f j k o ho hj hk
  have hdT:∀ k,k < r.length→edT ops te k=true→listed.getD k false=true:=fun k _ hk=>zb5 (S:=fun i=>listed.getD i false) hclT (fun k hk=>hdeps k (hback l te r e k hk) hk) hk
  have hcT:xQ (fun i=>listed.getD i false) (edT ops) tr:=fun l' te' r' e' hs k _ hk=>hclT 6 r'.length k te'.o (Valid.app (l:=l') (r:=te'::r') (by rw[←e']; exact hv)).2.1 hs hk
  refine PS.step (S:=fun i=>listed.getD i false) e hv (qP (fun te k h=>Jf h) hT) hM hal0 hG hcT hun' hdT h ?_
  intro v C' hd' h'
  have hS':(fun j=>(listed.setIfInBounds r.length true).getD j false)=fun j=>listed.getD j false||j==r.length:=funext hS
  refine ih _ _ C' (by simp [hz]) ?_ ?_ (by rw[←hd']; exact hD) (by rw[hS']; exact h')
  ·have:=qm (p:=fun i=>!listed.getD i false) (q:=fun i=>!(listed.setIfInBounds r.length true).getD i false) (List.range ops.size) (x:=r.length) (fun y _ hy=>by
    simp only[hS,Bool.not_or,Bool.and_eq_true] at hy; exact hy.1) (List.mem_range.2 hlt) (by rw[hun']; rfl) (by simp only[hS]; simp)
   omega
  ·intro l' te' r' e' hs k hk hek
   simp only[hS,Bool.or_eq_true,beq_iff_eq] at hs ⊢
   rcases hs with hs | hs
   ·exact .inl (hc l' te' r' e' hs k hk hek)
   ·left
    have:te'=te:=by
     have h1:=(Valid.app (l:=l') (r:=te'::r') (by rw[←e']; exact hv)).2.1
     have h2:l++te::r=l'++te'::r':=by rw[←e,←e']
     have h3:=List.append_inj' h2 (by simp [hs])
     simp only[List.cons.injEq] at h3
     exact h3.2.1.symm
    subst this
    exact hdeps k (by omega) hek
theorem vZ {P:Program}{B:Nat}{G:Nat→V}{ops:Array Oper}{N:Nat}{tm0:Nat→V}{m0:Mem}{n0:Nat}{tr:List TE}{S:Nat→Bool}(hv:Valid P B G ops N tm0 m0 n0 tr)
  (hback:∀ l te r,tr=l++te::r→∀ k,xH te k=true→k < r.length) (hc:xQ S xH tr):∀(f j k:Nat) (o:Oper),j < tr.length→ops[j]?=some o→S j=true→xT ops f o k=true→S k=true:=by
 intro f
 induction f using Nat.strongRecOn with
 | _ f ih =>
 intro j k o hlt ho hj hk
 obtain⟨l,te,r,e,hr⟩:=qA tr j hlt
 have hop:=(Valid.app (l:=l) (r:=te::r) (by rw[←e]; exact hv)).2.1
 rw[hr,ho] at hop
 have hte:o=te.o:=Option.some.inj hop
 have dir:∀ k,xd o k=true→k < r.length∧S k=true:=fun k hk=>by
  have hk':xH te k=true:=by rw[hte] at hk; exact hk
  exact⟨hback l te r e k hk',hc l te r e (by rw[hr]; exact hj) k (hback l te r e k hk') hk'⟩
 rcases vQ hk with h1 | ⟨j',f',o',h1,h2,h3,h4⟩
 ·exact (dir k h1).2
 ·exact ih f' h4 j' k o' (by have:=(dir j' h1).1; omega) h2 (dir j' h1).2 h3
theorem zaP {ro:Option Nat}{P:Program}{B:Nat}{C0:Ctx}{G:Nat→V}{ops:Array Oper}{N:Nat}{tm0:Nat→V}{m0:Mem}{n0:Nat}{tr:List TE}{Q:Exit→Act→World→Prop}{ol:Oper}
  (hv:Valid P B G ops N tm0 m0 n0 tr) (hlen:tr.length + 1=ops.size) (hol:ops[tr.length]?=some ol) (hlast:∀ k,k < tr.length→xT ops 6 ol k=true) (hbl:∀ k,xd ol k=true→k < tr.length)
  (hT:Apart wrT (YQ ops) xH tr) (hM:Apart wrM YR (edT ops) tr) (hback:∀ l te r,tr=l++te::r→∀ k,xH te k=true→k < r.length)
  (hal0:∀ id,n0≤id→id < jL n0 tr→¬ C0.al id) (hG:∀ g C,Keep C0 C→R C (G g) (.val (.pointer (some ⟨g,0,none⟩)))) (D:List Deferred)
  (hQ:∀ a C,a.defers=D→PS B C0 N tm0 m0 tr (fun _=>true) a C→∀ R:Act→World→Prop,(∀ a w,Q .normal a w→R a w)→wpOpIn (FR ro) 0 P ops Q tr.length R a C.w) :
  ∀(f:Nat) (listed:Array Bool) (a:Act) (C:Ctx),listed.size=ops.size→listed.getD tr.length false=false→(List.range ops.size).countP (fun i=>!listed.getD i false)≤f→xQ (fun i=>listed.getD i false) xH tr→a.defers=D →
   PS B C0 N tm0 m0 tr (fun i=>listed.getD i false) a C→wpAnyIn (FR ro) 0 P .any ops Q f listed a C.w:=by
 have edge_of:∀ {l r:List TE}{te:TE},tr=l++te::r→∀ {o:Oper},ops[r.length]?=some o→o=te.o:=by
  intro l r te e o ho
  have:=(Valid.app (l:=l) (r:=te::r) (by rw[←e]; exact hv)).2.1
  rw[this] at ho; exact (Option.some.inj ho).symm
 have first:∀(listed:Array Bool),listed.size=ops.size→∀ i,i≤tr.length→listed.getD i false=false→Region.ready .any ops listed≠[]:=by
  intro listed hz i
  induction i using Nat.strongRecOn with
  | _ i ih =>
   intro hi hun
   by_cases hall:∀ k,k < i→listed.getD k false=true
   ·have hun':∀(h:i < ops.size),i∈Region.ready .any ops listed↔(∃ o,ops[i]?=some o∧∀ x∈o.after,Region.binds .any x=true→listed.getD x.on false=true):=fun h=>by
     constructor
     ·intro h1
      obtain⟨_,o,ho,h2⟩:=mem_ready.1 h1
      exact⟨o,ho,h2⟩
     ·rintro⟨o,ho,h2⟩
      refine mem_ready.2 ⟨?_,o,ho,h2⟩
      simp [hz,h] at hun ⊢; exact hun
    have hm:i∈Region.ready .any ops listed:=by
     refine (hun' (by omega)).2 ?_
     rcases Nat.lt_or_ge i tr.length with hlt | hge
     ·obtain⟨l,te,r,e,hr⟩:=qA tr i hlt
      have hop:=(Valid.app (l:=l) (r:=te::r) (by rw[←e]; exact hv)).2.1
      rw[hr] at hop
      refine⟨te.o,hop,fun x hx hb=>?_⟩
      have h1:xH te x.on=true:=by
       unfold xH
       exact Array.any_eq_true'.2 ⟨x,hx,by simp [hb]⟩
      exact hall _ (by have:=hback l te r e _ h1; omega)
     ·obtain rfl:i=tr.length:=by omega
      refine⟨ol,hol,fun x hx hb=>?_⟩
      exact hall _ (hbl _ (by unfold xd; exact Array.any_eq_true'.2 ⟨x,hx,by simp [hb]⟩))
    intro h0; rw[h0] at hm; cases hm
   ·have⟨k,hk⟩:∃ k,k < i∧listed.getD k false=false:=by
     apply Classical.byContradiction
     intro hno
     refine hall fun k hk=>?_
     cases hkl:listed.getD k false with
     | true=>rfl
     | false=>exact absurd ⟨k,hk,hkl⟩ hno
    exact ih k hk.1 (by omega) hk.2
 intro f
 induction f with
 | zero =>
  intro listed a C hz hunl hcnt hc hD h
  exfalso
  have:0 < (List.range ops.size).countP (fun i=>!listed.getD i false):=List.countP_pos_iff.2 ⟨tr.length,List.mem_range.2 (by omega),by rw[hunl]; rfl⟩
  omega
 | succ f ih =>
  intro listed a C hz hunl hcnt hc hD h
  refine⟨fun h0=>absurd h0 (first listed hz tr.length (Nat.le_refl _) hunl),fun i hi=>?_⟩
  obtain⟨hun,o,ho,hall⟩:=mem_ready.1 hi
  have hlt:i < ops.size:=(Array.getElem?_eq_some_iff.1 ho).1
  have hun':listed.getD i false=false:=by simp [hz,hlt] at hun ⊢; exact hun
  rcases Nat.lt_or_ge i tr.length with hilt | hige
  ·obtain⟨l,te,r,e,hr⟩:=qA tr i hilt
   subst hr
   have hte:=edge_of e ho
   subst hte
   have hS:∀ j,(listed.setIfInBounds r.length true).getD j false=(listed.getD j false||j==r.length):=by
    intro j
    by_cases hj:r.length=j
    ·subst hj; simp [hz,hlt]
    ·rw[getD_set_ne false hj]
     have:(j==r.length)=false:=by simp; omega
     rw[this,Bool.or_false]
   have hdeps:∀ k,k < r.length→xH te k=true→listed.getD k false=true:=by
    intro k _ hk
    unfold xH at hk
    obtain⟨x,hx,hb⟩:=Array.any_eq_true'.1 hk
    simp only[Bool.and_eq_true,beq_iff_eq] at hb
    rw[←hb.2]; exact hall x hx hb.1
   have hclT:∀(f j k:Nat) (o:Oper),j < tr.length→ops[j]?=some o→listed.getD j false=true→xT ops f o k=true→listed.getD k false=true:=fun f j k o hj0 ho hj hk=>vZ (S:=fun i=>listed.getD i false) hv hback hc f j k o hj0 ho hj hk
   have hdT:∀ k,k < r.length→edT ops te k=true→listed.getD k false=true:=fun k _ hk=>by
    rcases vQ hk with h1 | ⟨j',f',o',h1,h2,h3,h4⟩
    ·exact hdeps k (hback l te r e k h1) h1
    ·have hj':=hback l te r e j' h1
     exact hclT f' j' k o' (by omega) h2 (hdeps j' hj' h1) h3
   have hcT:xQ (fun i=>listed.getD i false) (edT ops) tr:=fun l' te' r' e' hs k _ hk=>hclT 6 r'.length k te'.o (by rw[e']; simp; omega) (Valid.app (l:=l') (r:=te'::r') (by rw[←e']; exact hv)).2.1 hs hk
   refine PS.step (S:=fun i=>listed.getD i false) e hv (qP (fun te k h=>Jf h) hT) hM hal0 hG hcT hun' hdT h ?_
   intro v C' hd' h'
   have hS':(fun j=>(listed.setIfInBounds r.length true).getD j false)=fun j=>listed.getD j false||j==r.length:=funext hS
   refine ih _ _ C' (by simp [hz]) (by rw[hS,hunl]; simp; omega) ?_ ?_ (by rw[←hd']; exact hD) (by rw[hS']; exact h')
   ·have:=qm (p:=fun i=>!listed.getD i false) (q:=fun i=>!(listed.setIfInBounds r.length true).getD i false) (List.range ops.size) (x:=r.length) (fun y _ hy=>by
     simp only[hS,Bool.not_or,Bool.and_eq_true] at hy; exact hy.1) (List.mem_range.2 hlt) (by rw[hun']; rfl) (by simp only[hS]; simp)
    omega
   ·intro l' te' r' e' hs k hk hek
    simp only[hS,Bool.or_eq_true,beq_iff_eq] at hs ⊢
    rcases hs with hs | hs
    ·exact .inl (hc l' te' r' e' hs k hk hek)
    ·left
     have:te'=te:=by
      have h2:l++te::r=l'++te'::r':=by rw[←e,←e']
      have h3:=List.append_inj' h2 (by simp [hs])
      simp only[List.cons.injEq] at h3
      exact h3.2.1.symm
     subst this
     exact hdeps k (by omega) hek
  ·obtain rfl:i=tr.length:=by omega
   have hoe:o=ol:=by rw[hol] at ho; exact (Option.some.inj ho).symm
   subst hoe
   have hdir:∀ k,xd o k=true→listed.getD k false=true:=fun k hk=>by
    unfold xd at hk
    obtain⟨x,hx,hb⟩:=Array.any_eq_true'.1 hk
    simp only[Bool.and_eq_true,beq_iff_eq] at hb
    rw[←hb.2]; exact hall x hx hb.1
   have hS:∀ i,i < tr.length→listed.getD i false=true:=fun k hk=>by
    rcases vQ (hlast k hk) with h1 | ⟨j',f',o',h1,h2,h3,h4⟩
    ·exact hdir k h1
    ·exact vZ (S:=fun i=>listed.getD i false) hv hback hc f' j' k o' (hbl j' h1) h2 (hdir j' h1) h3
   have hps:PS B C0 N tm0 m0 tr (fun _=>true) a C:=by
    have e1:look wrM m0 (fun i=>listed.getD i false) tr=look wrM m0 (fun _=>true) tr:=by funext k; exact vh k tr hS
    have e2:∀ t,look wrT tm0 (fun i=>listed.getD i false) tr t=look wrT tm0 (fun _=>true) tr t:=fun t=>vh t tr hS
    refine⟨h.kp,by rw[←e1]; exact h.sr,fun t=>by rw[←e2]; exact h.tm t,fun id hid=>?_,h.size⟩
    rcases h.al id hid with h1 | ⟨l,te,r,e,_,h2⟩
    ·exact .inl h1
    ·exact .inr ⟨l,te,r,e,rfl,h2⟩
   refine hQ a C hD hps _ fun a' w' hq=>?_
   have hnil:Region.ready .any ops (listed.setIfInBounds tr.length true)=[]:=by
    apply Classical.byContradiction
    intro hne
    obtain⟨j,hj⟩:=List.exists_mem_of_ne_nil _ hne
    obtain⟨hu,o',ho',_⟩:=mem_ready.1 hj
    have hjl:j < ops.size:=(Array.getElem?_eq_some_iff.1 ho').1
    by_cases hje:tr.length=j
    ·subst hje; simp [hz,hjl] at hu
    ·have h2:(listed.setIfInBounds tr.length true).getD j false=true:=by
      rw[getD_set_ne false hje]; exact hS j (by omega)
     simp [hz,hjl] at hu h2
     rw[h2] at hu; cases hu
   cases f with
   | zero=>exact⟨hnil,hq⟩
   | succ f=>exact⟨fun _=>hq,fun j hj=>by rw[hnil] at hj; cases hj⟩
theorem W4 {ro:Option Nat}{P:Program}{B:Nat}{C0:Ctx}{G:Nat→V}{ops:Array Oper}{N:Nat}{tm0:Nat→V}{m0:Mem}{n0:Nat}{tr:List TE}{Q:Exit→Act→World→Prop}{ol o2:Oper}
  (hv:Valid P B G ops N tm0 m0 n0 tr) (hlen:tr.length + 2=ops.size) (ho2:ops[tr.length + 1]?=some o2) (h2e:xd o2 tr.length=true) (h2b:∀ k,xd o2 k=true→k < tr.length + 1) (hol:ops[tr.length]?=some ol) (hlast:∀ k,k < tr.length→xT ops 6 ol k=true) (hbl:∀ k,xd ol k=true→k < tr.length)
  (hT:Apart wrT (YQ ops) xH tr) (hM:Apart wrM YR (edT ops) tr) (hback:∀ l te r,tr=l++te::r→∀ k,xH te k=true→k < r.length)
  (hal0:∀ id,n0≤id→id < jL n0 tr→¬ C0.al id) (hG:∀ g C,Keep C0 C→R C (G g) (.val (.pointer (some ⟨g,0,none⟩)))) (D:List Deferred)
  (hQ:∀ a C,a.defers=D→PS B C0 N tm0 m0 tr (fun _=>true) a C→∀ R:Act→World→Prop,(∀ a w,(∀ R2:Act→World→Prop,(∀ a w,Q .normal a w→R2 a w)→wpOpIn (FR ro) 0 P ops Q (tr.length + 1) R2 a w)→R a w)→wpOpIn (FR ro) 0 P ops Q tr.length R a C.w) :
  ∀(f:Nat) (listed:Array Bool) (a:Act) (C:Ctx),listed.size=ops.size→listed.getD tr.length false=false→listed.getD (tr.length + 1) false=false→(List.range ops.size).countP (fun i=>!listed.getD i false)≤f→xQ (fun i=>listed.getD i false) xH tr→a.defers=D →
   PS B C0 N tm0 m0 tr (fun i=>listed.getD i false) a C→wpAnyIn (FR ro) 0 P .any ops Q f listed a C.w:=by
 have edge_of:∀ {l r:List TE}{te:TE},tr=l++te::r→∀ {o:Oper},ops[r.length]?=some o→o=te.o:=by
  intro l r te e o ho
  have:=(Valid.app (l:=l) (r:=te::r) (by rw[←e]; exact hv)).2.1
  rw[this] at ho; exact (Option.some.inj ho).symm
 have first:∀(listed:Array Bool),listed.size=ops.size→∀ i,i≤tr.length→listed.getD i false=false→Region.ready .any ops listed≠[]:=by
  intro listed hz i
  induction i using Nat.strongRecOn with
  | _ i ih =>
   intro hi hun
   by_cases hall:∀ k,k < i→listed.getD k false=true
   ·have hun':∀(h:i < ops.size),i∈Region.ready .any ops listed↔(∃ o,ops[i]?=some o∧∀ x∈o.after,Region.binds .any x=true→listed.getD x.on false=true):=fun h=>by
     constructor
     ·intro h1
      obtain⟨_,o,ho,h2⟩:=mem_ready.1 h1
      exact⟨o,ho,h2⟩
     ·rintro⟨o,ho,h2⟩
      refine mem_ready.2 ⟨?_,o,ho,h2⟩
      simp [hz,h] at hun ⊢; exact hun
    have hm:i∈Region.ready .any ops listed:=by
     refine (hun' (by omega)).2 ?_
     rcases Nat.lt_or_ge i tr.length with hlt | hge
     ·obtain⟨l,te,r,e,hr⟩:=qA tr i hlt
      have hop:=(Valid.app (l:=l) (r:=te::r) (by rw[←e]; exact hv)).2.1
      rw[hr] at hop
      refine⟨te.o,hop,fun x hx hb=>?_⟩
      have h1:xH te x.on=true:=by
       unfold xH
       exact Array.any_eq_true'.2 ⟨x,hx,by simp [hb]⟩
      exact hall _ (by have:=hback l te r e _ h1; omega)
     ·obtain rfl:i=tr.length:=by omega
      refine⟨ol,hol,fun x hx hb=>?_⟩
      exact hall _ (hbl _ (by unfold xd; exact Array.any_eq_true'.2 ⟨x,hx,by simp [hb]⟩))
    intro h0; rw[h0] at hm; cases hm
   ·have⟨k,hk⟩:∃ k,k < i∧listed.getD k false=false:=by
     apply Classical.byContradiction
     intro hno
     refine hall fun k hk=>?_
     cases hkl:listed.getD k false with
     | true=>rfl
     | false=>exact absurd ⟨k,hk,hkl⟩ hno
    exact ih k hk.1 (by omega) hk.2
 intro f
 induction f with
 | zero =>
  intro listed a C hz hunl hunl2 hcnt hc hD h
  exfalso
  have:0 < (List.range ops.size).countP (fun i=>!listed.getD i false):=List.countP_pos_iff.2 ⟨tr.length,List.mem_range.2 (by omega),by rw[hunl]; rfl⟩
  omega
 | succ f ih =>
  intro listed a C hz hunl hunl2 hcnt hc hD h
  refine⟨fun h0=>absurd h0 (first listed hz tr.length (Nat.le_refl _) hunl),fun i hi=>?_⟩
  obtain⟨hun,o,ho,hall⟩:=mem_ready.1 hi
  have hlt:i < ops.size:=(Array.getElem?_eq_some_iff.1 ho).1
  have hun':listed.getD i false=false:=by simp [hz,hlt] at hun ⊢; exact hun
  rcases Nat.lt_or_ge i tr.length with hilt | hige
  ·obtain⟨l,te,r,e,hr⟩:=qA tr i hilt
   subst hr
   have hte:=edge_of e ho
   subst hte
   have hS:∀ j,(listed.setIfInBounds r.length true).getD j false=(listed.getD j false||j==r.length):=by
    intro j
    by_cases hj:r.length=j
    ·subst hj; simp [hz,hlt]
    ·rw[getD_set_ne false hj]
     have:(j==r.length)=false:=by simp; omega
     rw[this,Bool.or_false]
   have hdeps:∀ k,k < r.length→xH te k=true→listed.getD k false=true:=by
    intro k _ hk
    unfold xH at hk
    obtain⟨x,hx,hb⟩:=Array.any_eq_true'.1 hk
    simp only[Bool.and_eq_true,beq_iff_eq] at hb
    rw[←hb.2]; exact hall x hx hb.1
   have hclT:∀(f j k:Nat) (o:Oper),j < tr.length→ops[j]?=some o→listed.getD j false=true→xT ops f o k=true→listed.getD k false=true:=fun f j k o hj0 ho hj hk=>vZ (S:=fun i=>listed.getD i false) hv hback hc f j k o hj0 ho hj hk
   have hdT:∀ k,k < r.length→edT ops te k=true→listed.getD k false=true:=fun k _ hk=>by
    rcases vQ hk with h1 | ⟨j',f',o',h1,h2,h3,h4⟩
    ·exact hdeps k (hback l te r e k h1) h1
    ·have hj':=hback l te r e j' h1
     exact hclT f' j' k o' (by omega) h2 (hdeps j' hj' h1) h3
   have hcT:xQ (fun i=>listed.getD i false) (edT ops) tr:=fun l' te' r' e' hs k _ hk=>hclT 6 r'.length k te'.o (by rw[e']; simp; omega) (Valid.app (l:=l') (r:=te'::r') (by rw[←e']; exact hv)).2.1 hs hk
   refine PS.step (S:=fun i=>listed.getD i false) e hv (qP (fun te k h=>Jf h) hT) hM hal0 hG hcT hun' hdT h ?_
   intro v C' hd' h'
   have hS':(fun j=>(listed.setIfInBounds r.length true).getD j false)=fun j=>listed.getD j false||j==r.length:=funext hS
   refine ih _ _ C' (by simp [hz]) (by rw[hS,hunl]; simp; omega) (by rw[hS,hunl2]; simp; omega) ?_ ?_ (by rw[←hd']; exact hD) (by rw[hS']; exact h')
   ·have:=qm (p:=fun i=>!listed.getD i false) (q:=fun i=>!(listed.setIfInBounds r.length true).getD i false) (List.range ops.size) (x:=r.length) (fun y _ hy=>by
     simp only[hS,Bool.not_or,Bool.and_eq_true] at hy; exact hy.1) (List.mem_range.2 hlt) (by rw[hun']; rfl) (by simp only[hS]; simp)
    omega
   ·intro l' te' r' e' hs k hk hek
    simp only[hS,Bool.or_eq_true,beq_iff_eq] at hs ⊢
    rcases hs with hs | hs
    ·exact .inl (hc l' te' r' e' hs k hk hek)
    ·left
     have:te'=te:=by
      have h2:l++te::r=l'++te'::r':=by rw[←e,←e']
      have h3:=List.append_inj' h2 (by simp [hs])
      simp only[List.cons.injEq] at h3
      exact h3.2.1.symm
     subst this
     exact hdeps k (by omega) hek
  ·have hne2:i≠tr.length + 1:=by
    rintro rfl
    rw[ho2] at ho
    cases ho
    unfold xd at h2e
    obtain⟨x,hx,hb⟩:=Array.any_eq_true'.1 h2e
    simp only[Bool.and_eq_true,beq_iff_eq] at hb
    have:=hall x hx hb.1
    rw[hb.2,hunl] at this
    cases this
   obtain rfl:i=tr.length:=by omega
   have hoe:o=ol:=by rw[hol] at ho; exact (Option.some.inj ho).symm
   subst hoe
   have hdir:∀ k,xd o k=true→listed.getD k false=true:=fun k hk=>by
    unfold xd at hk
    obtain⟨x,hx,hb⟩:=Array.any_eq_true'.1 hk
    simp only[Bool.and_eq_true,beq_iff_eq] at hb
    rw[←hb.2]; exact hall x hx hb.1
   have hS:∀ i,i < tr.length→listed.getD i false=true:=fun k hk=>by
    rcases vQ (hlast k hk) with h1 | ⟨j',f',o',h1,h2,h3,h4⟩
    ·exact hdir k h1
    ·exact vZ (S:=fun i=>listed.getD i false) hv hback hc f' j' k o' (hbl j' h1) h2 (hdir j' h1) h3
   have hps:PS B C0 N tm0 m0 tr (fun _=>true) a C:=by
    have e1:look wrM m0 (fun i=>listed.getD i false) tr=look wrM m0 (fun _=>true) tr:=by funext k; exact vh k tr hS
    have e2:∀ t,look wrT tm0 (fun i=>listed.getD i false) tr t=look wrT tm0 (fun _=>true) tr t:=fun t=>vh t tr hS
    refine⟨h.kp,by rw[←e1]; exact h.sr,fun t=>by rw[←e2]; exact h.tm t,fun id hid=>?_,h.size⟩
    rcases h.al id hid with h1 | ⟨l,te,r,e,_,h2⟩
    ·exact .inl h1
    ·exact .inr ⟨l,te,r,e,rfl,h2⟩
   have hS':∀ j,(listed.setIfInBounds tr.length true).getD j false=(listed.getD j false||j==tr.length):=by
    intro j
    by_cases hj:tr.length=j
    ·subst hj; simp [hz,hlt]
    ·rw[getD_set_ne false hj]
     have:(j==tr.length)=false:=by simp; omega
     rw[this,Bool.or_false]
   refine hQ a C hD hps _ fun a' w' hq=>?_
   have hc1:=qm (p:=fun i=>!listed.getD i false) (q:=fun i=>!(listed.setIfInBounds tr.length true).getD i false) (List.range ops.size) (x:=tr.length) (fun y _ hy=>by
    simp only[hS',Bool.not_or,Bool.and_eq_true] at hy; exact hy.1) (List.mem_range.2 hlt) (by rw[hun']; rfl) (by simp only[hS']; simp)
   have hc2:0 < (List.range ops.size).countP (fun i=>!(listed.setIfInBounds tr.length true).getD i false):=List.countP_pos_iff.2 ⟨tr.length + 1,List.mem_range.2 (by omega),by rw[hS',hunl2]; simp⟩
   obtain⟨f,rfl⟩:∃ f',f=f' + 1:=⟨f - 1,by omega⟩
   have hall2:∀ k,k < tr.length + 1→(listed.setIfInBounds tr.length true).getD k false=true:=fun k hk=>by
    rw[hS']
    rcases Nat.lt_or_ge k tr.length with q | q
    ·rw[hS k q]; rfl
    ·have:k=tr.length:=by omega
     simp [this]
   have hz2:(listed.setIfInBounds tr.length true).size=ops.size:=by simp [hz]
   have hun2:(listed.setIfInBounds tr.length true).getD (tr.length + 1) false=false:=by rw[hS',hunl2]; simp
   have hready:tr.length + 1∈Region.ready .any ops (listed.setIfInBounds tr.length true):=by
    refine mem_ready.2 ⟨?_,o2,ho2,fun x hx hb=>hall2 _ (h2b _ (by unfold xd; exact Array.any_eq_true'.2 ⟨x,hx,by simp [hb]⟩))⟩
    have hlt2:tr.length + 1 < ops.size:=by omega
    simp [hz,hlt2] at hun2 ⊢; exact hun2
   refine⟨fun h0=>(by rw[h0] at hready; cases hready),fun j hj=>?_⟩
   obtain⟨hu,o',ho',_⟩:=mem_ready.1 hj
   have hjl:j < ops.size:=(Array.getElem?_eq_some_iff.1 ho').1
   have hj2:j=tr.length + 1:=by
    apply Classical.byContradiction
    intro hne
    have h2:=hall2 j (by omega)
    simp [hz,hjl] at hu h2
    rw[h2] at hu; cases hu
   subst hj2
   refine hq _ fun a2 w2 hq2=>?_
   have hnil:Region.ready .any ops ((listed.setIfInBounds tr.length true).setIfInBounds (tr.length + 1) true)=[]:=by
    apply Classical.byContradiction
    intro hne
    obtain⟨j,hj⟩:=List.exists_mem_of_ne_nil _ hne
    obtain⟨hu,o',ho',_⟩:=mem_ready.1 hj
    have hjl:j < ops.size:=(Array.getElem?_eq_some_iff.1 ho').1
    by_cases hje:tr.length + 1=j
    ·subst hje; simp [hz,hjl] at hu
    ·have h2:((listed.setIfInBounds tr.length true).setIfInBounds (tr.length + 1) true).getD j false=true:=by
      rw[getD_set_ne false hje]; exact hall2 j (by omega)
     simp [hz,hjl] at hu h2
     rw[h2] at hu; cases hu
   cases f with
   | zero=>exact⟨hnil,hq2⟩
   | succ f=>exact⟨fun _=>hq2,fun j hj=>by rw[hnil] at hj; cases hj⟩
end Go.Ab
