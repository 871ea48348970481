/- Values in a form that the kernel works out quickly. No condition. Loops over functions, rounds, and how a function is left that has looped so. No condition. -/
import Derived.Test.YtfpmealbbibhpaaGreatDoorY6
set_option linter.unusedVariables false
set_option linter.unusedSimpArgs false
namespace Go.K
open Go.Ab Go.RowKit Go.Y
noncomputable section
inductive KV where
  | int (k:IntKind) (n:Int)
  | bool (b:Bool)
  | str (n:Nat) (x:Nat)
  | nl
  | cons (h:KV) (t:KV)
  | pk (k:IntKind) (n:Nat) (x:Nat)
  | ar (n:Nat) (d:KV) (t:KV)
  | te
  | tb (a:KV) (b:KV) (c:KV) (d:KV)
  | tn (x:KV) (a:KV) (b:KV) (c:KV) (d:KV)
  | ptr (id:Nat) (p:List Step) (s:Shape)
  | row (id:Nat) (s:Shape) (n:Nat)
  | sl (id:Nat) (p:List Step) (s:Shape) (off:Nat) (len:Nat) (cap:Option Nat)
  | ref (w:Bool) (s:Shape) (c:KV)
  | nilp
  | nils
  | nilf
  | ro (w:Bool) (clip:Bool) (s:Shape) (off:Nat) (len:Nat) (c:KV)
  | fn (f:FuncId) (cap:KV)
  | tup (l:KV)
  | unk
  | yld (id:Nat)
  | fa (n:Nat) (f:Nat→KV)
  | clo (x:KV)
  deriving Inhabited
def onInt (f:IntKind→Int→Prop) (z:Prop) (v:KV):Prop:=@KV.rec (fun _=>(IntKind→Int→Prop)→Prop→Prop) (fun x0 x1 f _=>f x0 x1) (fun _ _ z=>z) (fun _ _ _ z=>z) (fun _ z=>z) (fun _ _ _ _ _ z=>z) (fun _ _ _ _ z=>z) (fun _ _ _ _ _ _ z=>z) (fun _ z=>z) (fun _ _ _ _ _ _ _ _ _ z=>z) (fun _ _ _ _ _ _ _ _ _ _ _ z=>z) (fun _ _ _ _ z=>z) (fun _ _ _ _ z=>z) (fun _ _ _ _ _ _ _ z=>z) (fun _ _ _ _ _ z=>z) (fun _ z=>z) (fun _ z=>z) (fun _ z=>z) (fun _ _ _ _ _ _ _ _ z=>z) (fun _ _ _ _ z=>z) (fun _ _ _ z=>z) (fun _ z=>z) (fun _=>(fun _ z=>z)) (fun _ _ _=>(fun _ z=>z)) (fun _ _=>(fun _ z=>z)) v f z
theorem onInt_inv {f:IntKind→Int→Prop}{z:Prop}{v:KV}(h:onInt f z v):(∃ x0 x1,v=.int x0 x1∧f x0 x1)∨((∀ x0 x1,v≠.int x0 x1)∧z):=by
  cases v<;>first | exact .inl ⟨_,_,rfl,h⟩ | exact .inr ⟨by intros; simp,h⟩
def onBool (f:Bool→Prop) (z:Prop) (v:KV):Prop:=@KV.rec (fun _=>(Bool→Prop)→Prop→Prop) (fun _ _ _ z=>z) (fun x0 f _=>f x0) (fun _ _ _ z=>z) (fun _ z=>z) (fun _ _ _ _ _ z=>z) (fun _ _ _ _ z=>z) (fun _ _ _ _ _ _ z=>z) (fun _ z=>z) (fun _ _ _ _ _ _ _ _ _ z=>z) (fun _ _ _ _ _ _ _ _ _ _ _ z=>z) (fun _ _ _ _ z=>z) (fun _ _ _ _ z=>z) (fun _ _ _ _ _ _ _ z=>z) (fun _ _ _ _ _ z=>z) (fun _ z=>z) (fun _ z=>z) (fun _ z=>z) (fun _ _ _ _ _ _ _ _ z=>z) (fun _ _ _ _ z=>z) (fun _ _ _ z=>z) (fun _ z=>z) (fun _=>(fun _ z=>z)) (fun _ _ _=>(fun _ z=>z)) (fun _ _=>(fun _ z=>z)) v f z
theorem onBool_inv {f:Bool→Prop}{z:Prop}{v:KV}(h:onBool f z v):(∃ x0,v=.bool x0∧f x0)∨((∀ x0,v≠.bool x0)∧z):=by
  cases v<;>first | exact .inl ⟨_,rfl,h⟩ | exact .inr ⟨by intros; simp,h⟩
def onStr (f:Nat→Nat→Prop) (z:Prop) (v:KV):Prop:=@KV.rec (fun _=>(Nat→Nat→Prop)→Prop→Prop) (fun _ _ _ z=>z) (fun _ _ z=>z) (fun x0 x1 f _=>f x0 x1) (fun _ z=>z) (fun _ _ _ _ _ z=>z) (fun _ _ _ _ z=>z) (fun _ _ _ _ _ _ z=>z) (fun _ z=>z) (fun _ _ _ _ _ _ _ _ _ z=>z) (fun _ _ _ _ _ _ _ _ _ _ _ z=>z) (fun _ _ _ _ z=>z) (fun _ _ _ _ z=>z) (fun _ _ _ _ _ _ _ z=>z) (fun _ _ _ _ _ z=>z) (fun _ z=>z) (fun _ z=>z) (fun _ z=>z) (fun _ _ _ _ _ _ _ _ z=>z) (fun _ _ _ _ z=>z) (fun _ _ _ z=>z) (fun _ z=>z) (fun _=>(fun _ z=>z)) (fun _ _ _=>(fun _ z=>z)) (fun _ _=>(fun _ z=>z)) v f z
theorem onStr_inv {f:Nat→Nat→Prop}{z:Prop}{v:KV}(h:onStr f z v):(∃ x0 x1,v=.str x0 x1∧f x0 x1)∨((∀ x0 x1,v≠.str x0 x1)∧z):=by
  cases v<;>first | exact .inl ⟨_,_,rfl,h⟩ | exact .inr ⟨by intros; simp,h⟩
def onCons (f:KV→KV→Prop) (z:Prop) (v:KV):Prop:=@KV.rec (fun _=>(KV→KV→Prop)→Prop→Prop) (fun _ _ _ z=>z) (fun _ _ z=>z) (fun _ _ _ z=>z) (fun _ z=>z) (fun x0 x1 _ _ f _=>f x0 x1) (fun _ _ _ _ z=>z) (fun _ _ _ _ _ _ z=>z) (fun _ z=>z) (fun _ _ _ _ _ _ _ _ _ z=>z) (fun _ _ _ _ _ _ _ _ _ _ _ z=>z) (fun _ _ _ _ z=>z) (fun _ _ _ _ z=>z) (fun _ _ _ _ _ _ _ z=>z) (fun _ _ _ _ _ z=>z) (fun _ z=>z) (fun _ z=>z) (fun _ z=>z) (fun _ _ _ _ _ _ _ _ z=>z) (fun _ _ _ _ z=>z) (fun _ _ _ z=>z) (fun _ z=>z) (fun _=>(fun _ z=>z)) (fun _ _ _=>(fun _ z=>z)) (fun _ _=>(fun _ z=>z)) v f z
theorem onCons_inv {f:KV→KV→Prop}{z:Prop}{v:KV}(h:onCons f z v):(∃ x0 x1,v=.cons x0 x1∧f x0 x1)∨((∀ x0 x1,v≠.cons x0 x1)∧z):=by
  cases v<;>first | exact .inl ⟨_,_,rfl,h⟩ | exact .inr ⟨by intros; simp,h⟩
def onPk (f:IntKind→Nat→Nat→Prop) (z:Prop) (v:KV):Prop:=@KV.rec (fun _=>(IntKind→Nat→Nat→Prop)→Prop→Prop) (fun _ _ _ z=>z) (fun _ _ z=>z) (fun _ _ _ z=>z) (fun _ z=>z) (fun _ _ _ _ _ z=>z) (fun x0 x1 x2 f _=>f x0 x1 x2) (fun _ _ _ _ _ _ z=>z) (fun _ z=>z) (fun _ _ _ _ _ _ _ _ _ z=>z) (fun _ _ _ _ _ _ _ _ _ _ _ z=>z) (fun _ _ _ _ z=>z) (fun _ _ _ _ z=>z) (fun _ _ _ _ _ _ _ z=>z) (fun _ _ _ _ _ z=>z) (fun _ z=>z) (fun _ z=>z) (fun _ z=>z) (fun _ _ _ _ _ _ _ _ z=>z) (fun _ _ _ _ z=>z) (fun _ _ _ z=>z) (fun _ z=>z) (fun _=>(fun _ z=>z)) (fun _ _ _=>(fun _ z=>z)) (fun _ _=>(fun _ z=>z)) v f z
theorem onPk_inv {f:IntKind→Nat→Nat→Prop}{z:Prop}{v:KV}(h:onPk f z v):(∃ x0 x1 x2,v=.pk x0 x1 x2∧f x0 x1 x2)∨((∀ x0 x1 x2,v≠.pk x0 x1 x2)∧z):=by
  cases v<;>first | exact .inl ⟨_,_,_,rfl,h⟩ | exact .inr ⟨by intros; simp,h⟩
def onAr (f:Nat→KV→KV→Prop) (z:Prop) (v:KV):Prop:=@KV.rec (fun _=>(Nat→KV→KV→Prop)→Prop→Prop) (fun _ _ _ z=>z) (fun _ _ z=>z) (fun _ _ _ z=>z) (fun _ z=>z) (fun _ _ _ _ _ z=>z) (fun _ _ _ _ z=>z) (fun x0 x1 x2 _ _ f _=>f x0 x1 x2) (fun _ z=>z) (fun _ _ _ _ _ _ _ _ _ z=>z) (fun _ _ _ _ _ _ _ _ _ _ _ z=>z) (fun _ _ _ _ z=>z) (fun _ _ _ _ z=>z) (fun _ _ _ _ _ _ _ z=>z) (fun _ _ _ _ _ z=>z) (fun _ z=>z) (fun _ z=>z) (fun _ z=>z) (fun _ _ _ _ _ _ _ _ z=>z) (fun _ _ _ _ z=>z) (fun _ _ _ z=>z) (fun _ z=>z) (fun _=>(fun _ z=>z)) (fun _ _ _=>(fun _ z=>z)) (fun _ _=>(fun _ z=>z)) v f z
theorem onAr_inv {f:Nat→KV→KV→Prop}{z:Prop}{v:KV}(h:onAr f z v):(∃ x0 x1 x2,v=.ar x0 x1 x2∧f x0 x1 x2)∨((∀ x0 x1 x2,v≠.ar x0 x1 x2)∧z):=by
  cases v<;>first | exact .inl ⟨_,_,_,rfl,h⟩ | exact .inr ⟨by intros; simp,h⟩
def onPtr (f:Nat→(List Step)→Shape→Prop) (z:Prop) (v:KV):Prop:=@KV.rec (fun _=>(Nat→(List Step)→Shape→Prop)→Prop→Prop) (fun _ _ _ z=>z) (fun _ _ z=>z) (fun _ _ _ z=>z) (fun _ z=>z) (fun _ _ _ _ _ z=>z) (fun _ _ _ _ z=>z) (fun _ _ _ _ _ _ z=>z) (fun _ z=>z) (fun _ _ _ _ _ _ _ _ _ z=>z) (fun _ _ _ _ _ _ _ _ _ _ _ z=>z) (fun x0 x1 x2 f _=>f x0 x1 x2) (fun _ _ _ _ z=>z) (fun _ _ _ _ _ _ _ z=>z) (fun _ _ _ _ _ z=>z) (fun _ z=>z) (fun _ z=>z) (fun _ z=>z) (fun _ _ _ _ _ _ _ _ z=>z) (fun _ _ _ _ z=>z) (fun _ _ _ z=>z) (fun _ z=>z) (fun _=>(fun _ z=>z)) (fun _ _ _=>(fun _ z=>z)) (fun _ _=>(fun _ z=>z)) v f z
theorem onPtr_inv {f:Nat→(List Step)→Shape→Prop}{z:Prop}{v:KV}(h:onPtr f z v):(∃ x0 x1 x2,v=.ptr x0 x1 x2∧f x0 x1 x2)∨((∀ x0 x1 x2,v≠.ptr x0 x1 x2)∧z):=by
  cases v<;>first | exact .inl ⟨_,_,_,rfl,h⟩ | exact .inr ⟨by intros; simp,h⟩
def onRow (f:Nat→Shape→Nat→Prop) (z:Prop) (v:KV):Prop:=@KV.rec (fun _=>(Nat→Shape→Nat→Prop)→Prop→Prop) (fun _ _ _ z=>z) (fun _ _ z=>z) (fun _ _ _ z=>z) (fun _ z=>z) (fun _ _ _ _ _ z=>z) (fun _ _ _ _ z=>z) (fun _ _ _ _ _ _ z=>z) (fun _ z=>z) (fun _ _ _ _ _ _ _ _ _ z=>z) (fun _ _ _ _ _ _ _ _ _ _ _ z=>z) (fun _ _ _ _ z=>z) (fun x0 x1 x2 f _=>f x0 x1 x2) (fun _ _ _ _ _ _ _ z=>z) (fun _ _ _ _ _ z=>z) (fun _ z=>z) (fun _ z=>z) (fun _ z=>z) (fun _ _ _ _ _ _ _ _ z=>z) (fun _ _ _ _ z=>z) (fun _ _ _ z=>z) (fun _ z=>z) (fun _=>(fun _ z=>z)) (fun _ _ _=>(fun _ z=>z)) (fun _ _=>(fun _ z=>z)) v f z
theorem onRow_inv {f:Nat→Shape→Nat→Prop}{z:Prop}{v:KV}(h:onRow f z v):(∃ x0 x1 x2,v=.row x0 x1 x2∧f x0 x1 x2)∨((∀ x0 x1 x2,v≠.row x0 x1 x2)∧z):=by
  cases v<;>first | exact .inl ⟨_,_,_,rfl,h⟩ | exact .inr ⟨by intros; simp,h⟩
def onSl (f:Nat→(List Step)→Shape→Nat→Nat→(Option Nat)→Prop) (z:Prop) (v:KV):Prop:=@KV.rec (fun _=>(Nat→(List Step)→Shape→Nat→Nat→(Option Nat)→Prop)→Prop→Prop) (fun _ _ _ z=>z) (fun _ _ z=>z) (fun _ _ _ z=>z) (fun _ z=>z) (fun _ _ _ _ _ z=>z) (fun _ _ _ _ z=>z) (fun _ _ _ _ _ _ z=>z) (fun _ z=>z) (fun _ _ _ _ _ _ _ _ _ z=>z) (fun _ _ _ _ _ _ _ _ _ _ _ z=>z) (fun _ _ _ _ z=>z) (fun _ _ _ _ z=>z) (fun x0 x1 x2 x3 x4 x5 f _=>f x0 x1 x2 x3 x4 x5) (fun _ _ _ _ _ z=>z) (fun _ z=>z) (fun _ z=>z) (fun _ z=>z) (fun _ _ _ _ _ _ _ _ z=>z) (fun _ _ _ _ z=>z) (fun _ _ _ z=>z) (fun _ z=>z) (fun _=>(fun _ z=>z)) (fun _ _ _=>(fun _ z=>z)) (fun _ _=>(fun _ z=>z)) v f z
theorem onSl_inv {f:Nat→(List Step)→Shape→Nat→Nat→(Option Nat)→Prop}{z:Prop}{v:KV}(h:onSl f z v):(∃ x0 x1 x2 x3 x4 x5,v=.sl x0 x1 x2 x3 x4 x5∧f x0 x1 x2 x3 x4 x5)∨((∀ x0 x1 x2 x3 x4 x5,v≠.sl x0 x1 x2 x3 x4 x5)∧z):=by
  cases v<;>first | exact .inl ⟨_,_,_,_,_,_,rfl,h⟩ | exact .inr ⟨by intros; simp,h⟩
def onRef (f:Bool→Shape→KV→Prop) (z:Prop) (v:KV):Prop:=@KV.rec (fun _=>(Bool→Shape→KV→Prop)→Prop→Prop) (fun _ _ _ z=>z) (fun _ _ z=>z) (fun _ _ _ z=>z) (fun _ z=>z) (fun _ _ _ _ _ z=>z) (fun _ _ _ _ z=>z) (fun _ _ _ _ _ _ z=>z) (fun _ z=>z) (fun _ _ _ _ _ _ _ _ _ z=>z) (fun _ _ _ _ _ _ _ _ _ _ _ z=>z) (fun _ _ _ _ z=>z) (fun _ _ _ _ z=>z) (fun _ _ _ _ _ _ _ z=>z) (fun x0 x1 x2 _ f _=>f x0 x1 x2) (fun _ z=>z) (fun _ z=>z) (fun _ z=>z) (fun _ _ _ _ _ _ _ _ z=>z) (fun _ _ _ _ z=>z) (fun _ _ _ z=>z) (fun _ z=>z) (fun _=>(fun _ z=>z)) (fun _ _ _=>(fun _ z=>z)) (fun _ _=>(fun _ z=>z)) v f z
theorem onRef_inv {f:Bool→Shape→KV→Prop}{z:Prop}{v:KV}(h:onRef f z v):(∃ x0 x1 x2,v=.ref x0 x1 x2∧f x0 x1 x2)∨((∀ x0 x1 x2,v≠.ref x0 x1 x2)∧z):=by
  cases v<;>first | exact .inl ⟨_,_,_,rfl,h⟩ | exact .inr ⟨by intros; simp,h⟩
def onRo (f:Bool→Bool→Shape→Nat→Nat→KV→Prop) (z:Prop) (v:KV):Prop:=@KV.rec (fun _=>(Bool→Bool→Shape→Nat→Nat→KV→Prop)→Prop→Prop) (fun _ _ _ z=>z) (fun _ _ z=>z) (fun _ _ _ z=>z) (fun _ z=>z) (fun _ _ _ _ _ z=>z) (fun _ _ _ _ z=>z) (fun _ _ _ _ _ _ z=>z) (fun _ z=>z) (fun _ _ _ _ _ _ _ _ _ z=>z) (fun _ _ _ _ _ _ _ _ _ _ _ z=>z) (fun _ _ _ _ z=>z) (fun _ _ _ _ z=>z) (fun _ _ _ _ _ _ _ z=>z) (fun _ _ _ _ _ z=>z) (fun _ z=>z) (fun _ z=>z) (fun _ z=>z) (fun x0 x1 x2 x3 x4 x5 _ f _=>f x0 x1 x2 x3 x4 x5) (fun _ _ _ _ z=>z) (fun _ _ _ z=>z) (fun _ z=>z) (fun _=>(fun _ z=>z)) (fun _ _ _=>(fun _ z=>z)) (fun _ _=>(fun _ z=>z)) v f z
theorem onRo_inv {f:Bool→Bool→Shape→Nat→Nat→KV→Prop}{z:Prop}{v:KV}(h:onRo f z v):(∃ x0 x1 x2 x3 x4 x5,v=.ro x0 x1 x2 x3 x4 x5∧f x0 x1 x2 x3 x4 x5)∨((∀ x0 x1 x2 x3 x4 x5,v≠.ro x0 x1 x2 x3 x4 x5)∧z):=by
  cases v<;>first | exact .inl ⟨_,_,_,_,_,_,rfl,h⟩ | exact .inr ⟨by intros; simp,h⟩
def onFn (f:FuncId→KV→Prop) (z:Prop) (v:KV):Prop:=@KV.rec (fun _=>(FuncId→KV→Prop)→Prop→Prop) (fun _ _ _ z=>z) (fun _ _ z=>z) (fun _ _ _ z=>z) (fun _ z=>z) (fun _ _ _ _ _ z=>z) (fun _ _ _ _ z=>z) (fun _ _ _ _ _ _ z=>z) (fun _ z=>z) (fun _ _ _ _ _ _ _ _ _ z=>z) (fun _ _ _ _ _ _ _ _ _ _ _ z=>z) (fun _ _ _ _ z=>z) (fun _ _ _ _ z=>z) (fun _ _ _ _ _ _ _ z=>z) (fun _ _ _ _ _ z=>z) (fun _ z=>z) (fun _ z=>z) (fun _ z=>z) (fun _ _ _ _ _ _ _ _ z=>z) (fun x0 x1 _ f _=>f x0 x1) (fun _ _ _ z=>z) (fun _ z=>z) (fun _=>(fun _ z=>z)) (fun _ _ _=>(fun _ z=>z)) (fun _ _=>(fun _ z=>z)) v f z
theorem onFn_inv {f:FuncId→KV→Prop}{z:Prop}{v:KV}(h:onFn f z v):(∃ x0 x1,v=.fn x0 x1∧f x0 x1)∨((∀ x0 x1,v≠.fn x0 x1)∧z):=by
  cases v<;>first | exact .inl ⟨_,_,rfl,h⟩ | exact .inr ⟨by intros; simp,h⟩
def onTup (f:KV→Prop) (z:Prop) (v:KV):Prop:=@KV.rec (fun _=>(KV→Prop)→Prop→Prop) (fun _ _ _ z=>z) (fun _ _ z=>z) (fun _ _ _ z=>z) (fun _ z=>z) (fun _ _ _ _ _ z=>z) (fun _ _ _ _ z=>z) (fun _ _ _ _ _ _ z=>z) (fun _ z=>z) (fun _ _ _ _ _ _ _ _ _ z=>z) (fun _ _ _ _ _ _ _ _ _ _ _ z=>z) (fun _ _ _ _ z=>z) (fun _ _ _ _ z=>z) (fun _ _ _ _ _ _ _ z=>z) (fun _ _ _ _ _ z=>z) (fun _ z=>z) (fun _ z=>z) (fun _ z=>z) (fun _ _ _ _ _ _ _ _ z=>z) (fun _ _ _ _ z=>z) (fun x0 _ f _=>f x0) (fun _ z=>z) (fun _=>(fun _ z=>z)) (fun _ _ _=>(fun _ z=>z)) (fun _ _=>(fun _ z=>z)) v f z
theorem onTup_inv {f:KV→Prop}{z:Prop}{v:KV}(h:onTup f z v):(∃ x0,v=.tup x0∧f x0)∨((∀ x0,v≠.tup x0)∧z):=by
  cases v<;>first | exact .inl ⟨_,rfl,h⟩ | exact .inr ⟨by intros; simp,h⟩
def onNilp (f:Prop) (z:Prop) (v:KV):Prop:=@KV.rec (fun _=>(Prop)→Prop→Prop) (fun _ _ _ z=>z) (fun _ _ z=>z) (fun _ _ _ z=>z) (fun _ z=>z) (fun _ _ _ _ _ z=>z) (fun _ _ _ _ z=>z) (fun _ _ _ _ _ _ z=>z) (fun _ z=>z) (fun _ _ _ _ _ _ _ _ _ z=>z) (fun _ _ _ _ _ _ _ _ _ _ _ z=>z) (fun _ _ _ _ z=>z) (fun _ _ _ _ z=>z) (fun _ _ _ _ _ _ _ z=>z) (fun _ _ _ _ _ z=>z) (fun f _=>f) (fun _ z=>z) (fun _ z=>z) (fun _ _ _ _ _ _ _ _ z=>z) (fun _ _ _ _ z=>z) (fun _ _ _ z=>z) (fun _ z=>z) (fun _=>(fun _ z=>z)) (fun _ _ _=>(fun _ z=>z)) (fun _ _=>(fun _ z=>z)) v f z
theorem onNilp_inv {f:Prop}{z:Prop}{v:KV}(h:onNilp f z v):(v=.nilp∧f)∨((v≠.nilp)∧z):=by
  cases v with
  | int _ _=>exact .inr ⟨by simp,h⟩
  | bool _=>exact .inr ⟨by simp,h⟩
  | str _ _=>exact .inr ⟨by simp,h⟩
  | nl=>exact .inr ⟨by simp,h⟩
  | cons _ _=>exact .inr ⟨by simp,h⟩
  | pk _ _ _=>exact .inr ⟨by simp,h⟩
  | ar _ _ _=>exact .inr ⟨by simp,h⟩
  | te=>exact .inr ⟨by simp,h⟩
  | tb _ _ _ _=>exact .inr ⟨by simp,h⟩
  | tn _ _ _ _ _=>exact .inr ⟨by simp,h⟩
  | ptr _ _ _=>exact .inr ⟨by simp,h⟩
  | row _ _ _=>exact .inr ⟨by simp,h⟩
  | sl _ _ _ _ _ _=>exact .inr ⟨by simp,h⟩
  | ref _ _ _=>exact .inr ⟨by simp,h⟩
  | nilp=>exact .inl ⟨rfl,h⟩
  | nils=>exact .inr ⟨by simp,h⟩
  | nilf=>exact .inr ⟨by simp,h⟩
  | ro _ _ _ _ _ _=>exact .inr ⟨by simp,h⟩
  | fn _ _=>exact .inr ⟨by simp,h⟩
  | tup _=>exact .inr ⟨by simp,h⟩
  | unk=>exact .inr ⟨by simp,h⟩
  | yld _=>exact .inr ⟨by simp,h⟩
  | fa _ _=>exact .inr ⟨by intros; simp,h⟩
  | clo _=>exact .inr ⟨by intros; simp,h⟩
def onNils (f:Prop) (z:Prop) (v:KV):Prop:=@KV.rec (fun _=>(Prop)→Prop→Prop) (fun _ _ _ z=>z) (fun _ _ z=>z) (fun _ _ _ z=>z) (fun _ z=>z) (fun _ _ _ _ _ z=>z) (fun _ _ _ _ z=>z) (fun _ _ _ _ _ _ z=>z) (fun _ z=>z) (fun _ _ _ _ _ _ _ _ _ z=>z) (fun _ _ _ _ _ _ _ _ _ _ _ z=>z) (fun _ _ _ _ z=>z) (fun _ _ _ _ z=>z) (fun _ _ _ _ _ _ _ z=>z) (fun _ _ _ _ _ z=>z) (fun _ z=>z) (fun f _=>f) (fun _ z=>z) (fun _ _ _ _ _ _ _ _ z=>z) (fun _ _ _ _ z=>z) (fun _ _ _ z=>z) (fun _ z=>z) (fun _=>(fun _ z=>z)) (fun _ _ _=>(fun _ z=>z)) (fun _ _=>(fun _ z=>z)) v f z
theorem onNils_inv {f:Prop}{z:Prop}{v:KV}(h:onNils f z v):(v=.nils∧f)∨((v≠.nils)∧z):=by
  cases v with
  | int _ _=>exact .inr ⟨by simp,h⟩
  | bool _=>exact .inr ⟨by simp,h⟩
  | str _ _=>exact .inr ⟨by simp,h⟩
  | nl=>exact .inr ⟨by simp,h⟩
  | cons _ _=>exact .inr ⟨by simp,h⟩
  | pk _ _ _=>exact .inr ⟨by simp,h⟩
  | ar _ _ _=>exact .inr ⟨by simp,h⟩
  | te=>exact .inr ⟨by simp,h⟩
  | tb _ _ _ _=>exact .inr ⟨by simp,h⟩
  | tn _ _ _ _ _=>exact .inr ⟨by simp,h⟩
  | ptr _ _ _=>exact .inr ⟨by simp,h⟩
  | row _ _ _=>exact .inr ⟨by simp,h⟩
  | sl _ _ _ _ _ _=>exact .inr ⟨by simp,h⟩
  | ref _ _ _=>exact .inr ⟨by simp,h⟩
  | nilp=>exact .inr ⟨by simp,h⟩
  | nils=>exact .inl ⟨rfl,h⟩
  | nilf=>exact .inr ⟨by simp,h⟩
  | ro _ _ _ _ _ _=>exact .inr ⟨by simp,h⟩
  | fn _ _=>exact .inr ⟨by simp,h⟩
  | tup _=>exact .inr ⟨by simp,h⟩
  | unk=>exact .inr ⟨by simp,h⟩
  | yld _=>exact .inr ⟨by simp,h⟩
  | fa _ _=>exact .inr ⟨by intros; simp,h⟩
  | clo _=>exact .inr ⟨by intros; simp,h⟩
def onYld (f:Nat→Prop) (z:Prop) (v:KV):Prop:=@KV.rec (fun _=>(Nat→Prop)→Prop→Prop) (fun _ _ _ z=>z) (fun _ _ z=>z) (fun _ _ _ z=>z) (fun _ z=>z) (fun _ _ _ _ _ z=>z) (fun _ _ _ _ z=>z) (fun _ _ _ _ _ _ z=>z) (fun _ z=>z) (fun _ _ _ _ _ _ _ _ _ z=>z) (fun _ _ _ _ _ _ _ _ _ _ _ z=>z) (fun _ _ _ _ z=>z) (fun _ _ _ _ z=>z) (fun _ _ _ _ _ _ _ z=>z) (fun _ _ _ _ _ z=>z) (fun _ z=>z) (fun _ z=>z) (fun _ z=>z) (fun _ _ _ _ _ _ _ _ z=>z) (fun _ _ _ _ z=>z) (fun _ _ _ z=>z) (fun _ z=>z) (fun x0 f _=>f x0) (fun _ _ _=>(fun _ z=>z)) (fun _ _=>(fun _ z=>z)) v f z
theorem onYld_inv {f:Nat→Prop}{z:Prop}{v:KV}(h:onYld f z v):(∃ x0,v=.yld x0∧f x0)∨((∀ x0,v≠.yld x0)∧z):=by
  cases v<;>first | exact .inl ⟨_,rfl,h⟩ | exact .inr ⟨by intros; simp,h⟩
def onFa (f:Nat→(Nat→KV)→Prop) (z:Prop) (v:KV):Prop:=@KV.rec (fun _=>(Nat→(Nat→KV)→Prop)→Prop→Prop) (fun _ _ _ z=>z) (fun _ _ z=>z) (fun _ _ _ z=>z) (fun _ z=>z) (fun _ _ _ _ _ z=>z) (fun _ _ _ _ z=>z) (fun _ _ _ _ _ _ z=>z) (fun _ z=>z) (fun _ _ _ _ _ _ _ _ _ z=>z) (fun _ _ _ _ _ _ _ _ _ _ _ z=>z) (fun _ _ _ _ z=>z) (fun _ _ _ _ z=>z) (fun _ _ _ _ _ _ _ z=>z) (fun _ _ _ _ _ z=>z) (fun _ z=>z) (fun _ z=>z) (fun _ z=>z) (fun _ _ _ _ _ _ _ _ z=>z) (fun _ _ _ _ z=>z) (fun _ _ _ z=>z) (fun _ z=>z) (fun _ _ z=>z) (fun x0 x1 _ f _=>f x0 x1) (fun _ _ _ z=>z) v f z
theorem onFa_inv {f:Nat→(Nat→KV)→Prop}{z:Prop}{v:KV}(h:onFa f z v):(∃ x0 x1,v=.fa x0 x1∧f x0 x1)∨((∀ x0 x1,v≠.fa x0 x1)∧z):=by
  cases v<;>first | exact .inl ⟨_,_,rfl,h⟩ | exact .inr ⟨by intros; simp,h⟩
def onNilf (f:Prop) (z:Prop) (v:KV):Prop:=@KV.rec (fun _=>(Prop)→Prop→Prop) (fun _ _ _ z=>z) (fun _ _ z=>z) (fun _ _ _ z=>z) (fun _ z=>z) (fun _ _ _ _ _ z=>z) (fun _ _ _ _ z=>z) (fun _ _ _ _ _ _ z=>z) (fun _ z=>z) (fun _ _ _ _ _ _ _ _ _ z=>z) (fun _ _ _ _ _ _ _ _ _ _ _ z=>z) (fun _ _ _ _ z=>z) (fun _ _ _ _ z=>z) (fun _ _ _ _ _ _ _ z=>z) (fun _ _ _ _ _ z=>z) (fun _ z=>z) (fun _ z=>z) (fun f _=>f) (fun _ _ _ _ _ _ _ _ z=>z) (fun _ _ _ _ z=>z) (fun _ _ _ z=>z) (fun _ z=>z) (fun _ _ z=>z) (fun _ _ _=>(fun _ z=>z)) (fun _ _=>(fun _ z=>z)) v f z
theorem onNilf_inv {f:Prop}{z:Prop}{v:KV}(h:onNilf f z v):(v=.nilf∧f)∨((v≠.nilf)∧z):=by
  cases v with
  | int _ _=>exact .inr ⟨by simp,h⟩
  | bool _=>exact .inr ⟨by simp,h⟩
  | str _ _=>exact .inr ⟨by simp,h⟩
  | nl=>exact .inr ⟨by simp,h⟩
  | cons _ _=>exact .inr ⟨by simp,h⟩
  | pk _ _ _=>exact .inr ⟨by simp,h⟩
  | ar _ _ _=>exact .inr ⟨by simp,h⟩
  | te=>exact .inr ⟨by simp,h⟩
  | tb _ _ _ _=>exact .inr ⟨by simp,h⟩
  | tn _ _ _ _ _=>exact .inr ⟨by simp,h⟩
  | ptr _ _ _=>exact .inr ⟨by simp,h⟩
  | row _ _ _=>exact .inr ⟨by simp,h⟩
  | sl _ _ _ _ _ _=>exact .inr ⟨by simp,h⟩
  | ref _ _ _=>exact .inr ⟨by simp,h⟩
  | nilp=>exact .inr ⟨by simp,h⟩
  | nils=>exact .inr ⟨by simp,h⟩
  | nilf=>exact .inl ⟨rfl,h⟩
  | ro _ _ _ _ _ _=>exact .inr ⟨by simp,h⟩
  | fn _ _=>exact .inr ⟨by simp,h⟩
  | tup _=>exact .inr ⟨by simp,h⟩
  | unk=>exact .inr ⟨by simp,h⟩
  | yld _=>exact .inr ⟨by simp,h⟩
  | fa _ _=>exact .inr ⟨by intros; simp,h⟩
  | clo _=>exact .inr ⟨by intros; simp,h⟩
def onNl (f:Prop) (z:Prop) (v:KV):Prop:=@KV.rec (fun _=>(Prop)→Prop→Prop) (fun _ _ _ z=>z) (fun _ _ z=>z) (fun _ _ _ z=>z) (fun f _=>f) (fun _ _ _ _ _ z=>z) (fun _ _ _ _ z=>z) (fun _ _ _ _ _ _ z=>z) (fun _ z=>z) (fun _ _ _ _ _ _ _ _ _ z=>z) (fun _ _ _ _ _ _ _ _ _ _ _ z=>z) (fun _ _ _ _ z=>z) (fun _ _ _ _ z=>z) (fun _ _ _ _ _ _ _ z=>z) (fun _ _ _ _ _ z=>z) (fun _ z=>z) (fun _ z=>z) (fun _ z=>z) (fun _ _ _ _ _ _ _ _ z=>z) (fun _ _ _ _ z=>z) (fun _ _ _ z=>z) (fun _ z=>z) (fun _=>(fun _ z=>z)) (fun _ _ _=>(fun _ z=>z)) (fun _ _=>(fun _ z=>z)) v f z
theorem onNl_inv {f:Prop}{z:Prop}{v:KV}(h:onNl f z v):(v=.nl∧f)∨((v≠.nl)∧z):=by
  cases v with
  | int _ _=>exact .inr ⟨by simp,h⟩
  | bool _=>exact .inr ⟨by simp,h⟩
  | str _ _=>exact .inr ⟨by simp,h⟩
  | nl=>exact .inl ⟨rfl,h⟩
  | cons _ _=>exact .inr ⟨by simp,h⟩
  | pk _ _ _=>exact .inr ⟨by simp,h⟩
  | ar _ _ _=>exact .inr ⟨by simp,h⟩
  | te=>exact .inr ⟨by simp,h⟩
  | tb _ _ _ _=>exact .inr ⟨by simp,h⟩
  | tn _ _ _ _ _=>exact .inr ⟨by simp,h⟩
  | ptr _ _ _=>exact .inr ⟨by simp,h⟩
  | row _ _ _=>exact .inr ⟨by simp,h⟩
  | sl _ _ _ _ _ _=>exact .inr ⟨by simp,h⟩
  | ref _ _ _=>exact .inr ⟨by simp,h⟩
  | nilp=>exact .inr ⟨by simp,h⟩
  | nils=>exact .inr ⟨by simp,h⟩
  | nilf=>exact .inr ⟨by simp,h⟩
  | ro _ _ _ _ _ _=>exact .inr ⟨by simp,h⟩
  | fn _ _=>exact .inr ⟨by simp,h⟩
  | tup _=>exact .inr ⟨by simp,h⟩
  | unk=>exact .inr ⟨by simp,h⟩
  | yld _=>exact .inr ⟨by simp,h⟩
  | fa _ _=>exact .inr ⟨by intros; simp,h⟩
  | clo _=>exact .inr ⟨by intros; simp,h⟩
def wd (k:IntKind):Nat:=@IntKind.rec (fun _=>Nat) 8 16 32 64 8 16 32 64 k
theorem mdl_wd (k:IntKind):mdl k=2 ^ wd k:=by cases k<;>rfl
theorem hlf_wd (k:IntKind):hlf k=2 ^ (wd k - 1):=by cases k<;>rfl
def dec (k:IntKind) (r:Nat):Int:=@Bool.rec (fun _=>Int) (.ofNat r) (@Bool.rec (fun _=>Int) (.negSucc (mdl k - 1 - r)) (.ofNat r) (Nat.blt r (hlf k))) (sgn k)
def encI (k:IntKind) (a:Int):Nat:=@Int.rec (fun _=>Nat) (fun m=>m) (fun m=>mdl k - 1 - m) a
def inR (k:IntKind) (a:Int):Bool:=@Int.rec (fun _=>Bool) (fun m=>Nat.blt m (@Bool.rec (fun _=>Nat) (mdl k) (hlf k) (sgn k))) (fun m=>@Bool.rec (fun _=>Bool) false (Nat.blt m (hlf k)) (sgn k)) a
theorem nblt {a b:Nat}:Nat.blt a b=true↔a < b:=by rw[Nat.blt_eq]
theorem nblt_f {a b:Nat}(h:¬ a < b):Nat.blt a b=false:=by rw[←Bool.not_eq_true,Nat.blt_eq]; exact h
theorem hlf_mdl (k:IntKind):hlf k * 2=mdl k:=by cases k<;>rfl
theorem inR_s {k:IntKind}{a:Int}(h:inR k a=true):dec k (encI k a)=a∧encI k a < mdl k:=by
  have hh:=hlf_mdl k
  cases a with
  | ofNat m =>
    have h1:Nat.blt m (@Bool.rec (fun _=>Nat) (mdl k) (hlf k) (sgn k))=true:=h
    show dec k m=_∧m < mdl k
    unfold dec
    cases hs:sgn k with
    | false=>rw[hs] at h1; exact⟨rfl,nblt.1 h1⟩
    | true =>
      rw[hs] at h1
      have h2:Nat.blt m (hlf k)=true:=h1
      refine⟨?_,by have:=nblt.1 h2; omega⟩
      show @Bool.rec (fun _=>Int) (.negSucc (mdl k - 1 - m)) (.ofNat m) (Nat.blt m (hlf k))=_
      rw[h2]
  | negSucc m =>
    have h1:@Bool.rec (fun _=>Bool) false (Nat.blt m (hlf k)) (sgn k)=true:=h
    show dec k (mdl k - 1 - m)=_∧mdl k - 1 - m < mdl k
    unfold dec
    cases hs:sgn k with
    | false=>rw[hs] at h1; cases h1
    | true =>
      rw[hs] at h1
      have h2:m < hlf k:=nblt.1 h1
      refine⟨?_,by omega⟩
      show @Bool.rec (fun _=>Int) (.negSucc (mdl k - 1 - (mdl k - 1 - m))) (.ofNat (mdl k - 1 - m)) (Nat.blt (mdl k - 1 - m) (hlf k))=_
      rw[nblt_f (by omega)]
      show Int.negSucc _=_
      congr 1; omega
def bts (x o l:Nat):Nat:=Nat.mod (Nat.shiftRight x o) (Nat.pow 2 l)
def btp (x o l y:Nat):Nat:=Nat.xor x (Nat.shiftLeft (Nat.xor (bts x o l) y) o)
theorem bts_bit (x o l b:Nat):(bts x o l).testBit b=(decide (b < l)&&x.testBit (o + b)):=by
  show ((x >>> o) % 2 ^ l).testBit b=_
  rw[Nat.testBit_mod_two_pow,Nat.testBit_shiftRight]
theorem bts_lt (x o l:Nat):bts x o l < 2 ^ l:=Nat.mod_lt _ (Nat.two_pow_pos l)
theorem bit_big {y l b:Nat}(hy:y < 2 ^ l) (h:l≤b):y.testBit b=false:=Nat.testBit_lt_two_pow (Nat.lt_of_lt_of_le hy (Nat.pow_le_pow_right (by omega) h))
theorem btp_bit {x o l y:Nat}(hy:y < 2 ^ l) (b:Nat):(btp x o l y).testBit b=if o≤b∧b < o + l then y.testBit (b - o) else x.testBit b:=by
  show (x ^^^ ((bts x o l ^^^ y) <<< o)).testBit b=_
  rw[Nat.testBit_xor,Nat.testBit_shiftLeft,Nat.testBit_xor,bts_bit]
  by_cases h1:o≤b
  · by_cases h2:b < o + l
    · rw[if_pos ⟨h1,h2⟩]
      have h3:b - o < l:=by omega
      rw[show o + (b - o)=b by omega]
      simp [h1,h3]
    · rw[if_neg (by omega),bit_big hy (by omega)]
      have h3:¬ b - o < l:=by omega
      simp [h3]
  · rw[if_neg (by omega)]
    simp [h1]
theorem bts_btp {x o l y:Nat}(hy:y < 2 ^ l) (o' l':Nat):bts (btp x o l y) o' l'=if o≤o'∧o' + l'≤o + l then bts y (o' - o) l' else if o' + l'≤o∨o + l≤o' then bts x o' l' else bts (btp x o l y) o' l':=by
  split
  · rename_i h
    apply Nat.eq_of_testBit_eq; intro b
    rw[bts_bit,bts_bit,btp_bit hy]
    by_cases hb:b < l'
    · rw[if_pos (by omega),show o' - o + b=o' + b - o by omega]
    · simp [hb]
  · split
    · apply Nat.eq_of_testBit_eq; intro b
      rw[bts_bit,bts_bit,btp_bit hy]
      by_cases hb:b < l'
      · rw[if_neg (by omega)]
      · simp [hb]
    · rfl
theorem bts_bts {x o l o' l':Nat}(h:o' + l'≤l):bts (bts x o l) o' l'=bts x (o + o') l':=by
  apply Nat.eq_of_testBit_eq; intro b
  rw[bts_bit,bts_bit,bts_bit]
  by_cases hb:b < l'
  · rw[show o + (o' + b)=o + o' + b by omega]
    have:o' + b < l:=by omega
    simp [hb,this]
  · simp [hb]
def pkr (k:IntKind) (x i:Nat):Nat:=bts x (Nat.mul (wd k) i) (wd k)
def pkg (k:IntKind) (x i:Nat):Int:=dec k (pkr k x i)
def pkx (k:IntKind) (x off len:Nat):Nat:=bts x (Nat.mul (wd k) off) (Nat.mul (wd k) len)
def pkp (k:IntKind) (x off len y:Nat):Nat:=btp x (Nat.mul (wd k) off) (Nat.mul (wd k) len) y
theorem pkx_lt (k:IntKind) (x off len:Nat):pkx k x off len < 2 ^ (wd k * len):=bts_lt _ _ _
theorem pkr_pkx {k:IntKind}{x off len j:Nat}(h:j < len):pkr k (pkx k x off len) j=pkr k x (off + j):=by
  have h1:wd k * (j + 1)≤wd k * len:=Nat.mul_le_mul_left _ h
  have h2:wd k * (j + 1)=wd k * j + wd k:=Nat.mul_succ _ _
  have h3:wd k * (off + j)=wd k * off + wd k * j:=Nat.mul_add _ _ _
  show bts (bts x (wd k * off) (wd k * len)) (wd k * j) (wd k)=bts x (wd k * (off + j)) (wd k)
  rw[bts_bts (by omega),h3]
theorem pkr_pkp {k:IntKind}{x off len y:Nat}(hy:y < 2 ^ (wd k * len)) (j:Nat):pkr k (pkp k x off len y) j=if off≤j∧j < off + len then pkr k y (j - off) else pkr k x j:=by
  show bts (btp x (wd k * off) (wd k * len) y) (wd k * j) (wd k)=if off≤j∧j < off + len then bts y (wd k * (j - off)) (wd k) else bts x (wd k * j) (wd k)
  rw[bts_btp hy]
  by_cases h:off≤j∧j < off + len
  · have h1:wd k * off≤wd k * j:=Nat.mul_le_mul_left _ h.1
    have h2:wd k * (j + 1)≤wd k * (off + len):=Nat.mul_le_mul_left _ h.2
    have h3:wd k * (j + 1)=wd k * j + wd k:=Nat.mul_succ _ _
    have h4:wd k * (off + len)=wd k * off + wd k * len:=Nat.mul_add _ _ _
    have h5:wd k * (j - off)=wd k * j - wd k * off:=Nat.mul_sub _ _ _
    rw[if_pos h,if_pos (by omega),h5]
  · rw[if_neg h]
    have h6:wd k * j + wd k≤wd k * off∨wd k * off + wd k * len≤wd k * j:=by
      by_cases h7:j < off
      · left
        have:=Nat.mul_le_mul_left (wd k) (show j + 1≤off from h7)
        rw[Nat.mul_succ] at this; exact this
      · right
        have:=Nat.mul_le_mul_left (wd k) (show off + len≤j by omega)
        rw[Nat.mul_add] at this; exact this
    by_cases h8:wd k * off≤wd k * j∧wd k * j + wd k≤wd k * off + wd k * len
    · exfalso
      have:0 < wd k:=by cases k<;>decide
      omega
    · rw[if_neg h8,if_pos h6]
theorem pkr_lt (k:IntKind) (x i:Nat):pkr k x i < mdl k:=by rw[mdl_wd]; exact bts_lt _ _ _
theorem pkr_zero {k:IntKind}{y:Nat}(hy:y < 2 ^ wd k):pkr k y 0=y:=by
  show bts y (wd k * 0) (wd k)=y
  rw[Nat.mul_zero]
  exact Nat.mod_eq_of_lt hy
def pks (k:IntKind) (x i:Nat) (a:Int):Nat:=btp x (Nat.mul (wd k) i) (wd k) (encI k a)
theorem pkg_pks {k:IntKind}{x i:Nat}{a:Int}(h:inR k a=true) (j:Nat):pkg k (pks k x i a) j=if j=i then a else pkg k x j:=by
  obtain⟨h1,h2⟩:=inR_s h
  rw[mdl_wd] at h2
  have h3:pks k x i a=pkp k x i 1 (encI k a):=by unfold pks pkp; rw[show Nat.mul (wd k) 1=wd k from Nat.mul_one _]
  unfold pkg
  rw[h3,pkr_pkp (by rw[Nat.mul_one]; exact h2)]
  by_cases hj:j=i
  · subst hj
    rw[if_pos ⟨Nat.le_refl _,by omega⟩,if_pos rfl,Nat.sub_self,pkr_zero h2,h1]
  · rw[if_neg (by omega),if_neg hj]
theorem pkg_zero (k:IntKind) (i:Nat):pkg k 0 i=0:=by
  have:pkr k 0 i=0:=by
    show bts 0 (wd k * i) (wd k)=0
    apply Nat.eq_of_testBit_eq; intro b
    rw[bts_bit]; simp
  unfold pkg
  rw[this]
  cases k<;>rfl
def bytesOf (n x:Nat):ByteArray:=⟨⟨(List.range n).map fun i=>UInt8.ofNat (pkr .u8 x i)⟩⟩
def subT (g:Dg) (a b c d:Pth→V→V):Pth→V→V:=@Dg.rec (fun _=>Pth→V→V) a b c d g
def cloV (v:V):V:=@ite _ (v.bel 0∧v.fits .sc=true∧v.known=true) (Classical.propDecidable _) v .nilp
theorem cloV_s (v:V):(cloV v).bel 0∧(cloV v).fits .sc=true∧(cloV v).known=true:=by
  unfold cloV
  split
  · assumption
  · exact⟨trivial,rfl,rfl⟩
theorem cloV_eq {v:V}(h1:v.bel 0) (h2:v.fits .sc=true) (h3:v.known=true):cloV v=v:=by
  unfold cloV
  exact if_pos ⟨h1,h2,h3⟩
theorem cloV_fld (v:V) (k:Nat):(cloV v).fld k=.unk:=by
  have h:=(cloV_s v).2.1
  generalize cloV v=w at h
  cases w<;>first | (cases h; done) | (cases k<;>rfl)
theorem cloV_idx (v:V) (i:Nat):(cloV v).step (.idx i)=.unk:=by
  have h:=(cloV_s v).2.1
  generalize cloV v=w at h
  cases w<;>first | (cases h; done) | rfl
def KV.vt:KV→V×(Pth→V→V)
  | .int k n=>(.int k n,fun _ z=>z)
  | .bool b=>(.bool b,fun _ z=>z)
  | .str n x=>(.str (bytesOf n x),fun _ z=>z)
  | .nl=>(.nl,fun _ z=>z)
  | .cons h t=>(.cons h.vt.1 t.vt.1,fun _ z=>z)
  | .pk k n x=>(.arr n fun i=>.int k (pkg k x i),fun _ z=>z)
  | .ar n d t=>(.arr n fun i=>t.vt.2 (enc i) d.vt.1,fun _ z=>z)
  | .te=>(.unk,fun _ z=>z)
  | .tb a b c d=>(.unk,fun p z=>match p with | []=>z | g::p=>subT g a.vt.2 b.vt.2 c.vt.2 d.vt.2 p z)
  | .tn x a b c d=>(.unk,fun p z=>match p with | []=>x.vt.1 | g::p=>subT g a.vt.2 b.vt.2 c.vt.2 d.vt.2 p z)
  | .ptr id p s=>(.ptr id p s,fun _ z=>z)
  | .row id s n=>(.row id s n,fun _ z=>z)
  | .sl id p s off len cap=>(.sl id p s off len cap,fun _ z=>z)
  | .ref w s c=>(.ref w s c.vt.1,fun _ z=>z)
  | .nilp=>(.nilp,fun _ z=>z)
  | .nils=>(.nils,fun _ z=>z)
  | .nilf=>(.nilf,fun _ z=>z)
  | .ro w clip s off len c=>(.ro w clip s len fun i=>c.vt.1.step (.idx (off + i)),fun _ z=>z)
  | .fn f cap=>(.fn f cap.vt.1,fun _ z=>z)
  | .tup l=>(.tup l.vt.1,fun _ z=>z)
  | .unk=>(.unk,fun _ z=>z)
  | .yld id=>(.yld id,fun _ z=>z)
  | .fa n f=>(.arr n fun i=>(f i).vt.1,fun _ z=>z)
  | .clo x=>(cloV x.vt.1,fun _ z=>z)
def KV.v (x:KV):V:=x.vt.1
def KV.atv (t:KV) (p:Pth) (z:V):V:=t.vt.2 p z
section
variable (k:IntKind) (i n x id off len:Nat) (a:Int) (b w clip:Bool) (h t d l c u:KV) (p:List Step) (s:Shape) (cap:Option Nat) (f:FuncId)
theorem v_int:(KV.int k a).v=.int k a:=rfl
theorem v_bool:(KV.bool b).v=.bool b:=rfl
theorem v_str:(KV.str n x).v=.str (bytesOf n x):=rfl
theorem v_nl:KV.nl.v=.nl:=rfl
theorem v_cons:(KV.cons h t).v=.cons h.v t.v:=rfl
theorem v_pk:(KV.pk k n x).v=.arr n fun i=>.int k (pkg k x i):=rfl
theorem v_ar:(KV.ar n d t).v=.arr n fun i=>t.atv (enc i) d.v:=rfl
theorem v_ptr:(KV.ptr id p s).v=.ptr id p s:=rfl
theorem v_row:(KV.row id s n).v=.row id s n:=rfl
theorem v_sl:(KV.sl id p s off len cap).v=.sl id p s off len cap:=rfl
theorem v_ref:(KV.ref w s c).v=.ref w s c.v:=rfl
theorem v_nilp:KV.nilp.v=.nilp:=rfl
theorem v_nils:KV.nils.v=.nils:=rfl
theorem v_nilf:KV.nilf.v=.nilf:=rfl
theorem v_ro:(KV.ro w clip s off len c).v=.ro w clip s len fun i=>c.v.step (.idx (off + i)):=rfl
theorem v_fn:(KV.fn f c).v=.fn f c.v:=rfl
theorem v_tup:(KV.tup l).v=.tup l.v:=rfl
theorem v_unk:KV.unk.v=.unk:=rfl
theorem v_yld:(KV.yld id).v=.yld id:=rfl
theorem v_fa (g:Nat→KV):(KV.fa n g).v=.arr n fun i=>(g i).v:=rfl
theorem v_clo:(KV.clo c).v=cloV c.v:=rfl
theorem v_e:KV.te.v=.unk:=rfl
theorem v_m:(KV.tb h t d l).v=.unk:=rfl
theorem v_n:(KV.tn h t d l c).v=.unk:=rfl
end
def kpick (g:Dg) (a b c d:KV):KV:=@Dg.rec (fun _=>KV) a b c d g
def kget (z:KV) (p:Pth):KV→KV:=@List.rec Dg (fun _=>KV→KV)
  (fun t=>@KV.rec (fun _=>KV) (fun _ _=>z) (fun _=>z) (fun _ _=>z) z (fun _ _ _ _=>z) (fun _ _ _=>z) (fun _ _ _ _ _=>z) z (fun _ _ _ _ _ _ _ _=>z) (fun x _ _ _ _ _ _ _ _ _=>x) (fun _ _ _=>z) (fun _ _ _=>z) (fun _ _ _ _ _ _=>z) (fun _ _ _ _=>z) z z z (fun _ _ _ _ _ _ _=>z) (fun _ _ _=>z) (fun _ _=>z) z (fun _=>z) (fun _ _ _=>z) (fun _ _=>z) t)
  (fun g _ ih t=>@KV.rec (fun _=>KV) (fun _ _=>z) (fun _=>z) (fun _ _=>z) z (fun _ _ _ _=>z) (fun _ _ _=>z) (fun _ _ _ _ _=>z) z (fun a b c d _ _ _ _=>ih (kpick g a b c d)) (fun _ a b c d _ _ _ _ _=>ih (kpick g a b c d)) (fun _ _ _=>z) (fun _ _ _=>z) (fun _ _ _ _ _ _=>z) (fun _ _ _ _=>z) z z z (fun _ _ _ _ _ _ _=>z) (fun _ _ _=>z) (fun _ _=>z) z (fun _=>z) (fun _ _ _=>z) (fun _ _=>z) t) p
theorem kget_v (z:KV):∀(p:Pth) (t:KV),(kget z p t).v=t.atv p z.v
  | [],t=>by cases t<;>rfl
  | g::p,t=>by
    have ih:=kget_v z p
    cases t with
    | tb a b c d=>cases g<;>exact ih _
    | tn x a b c d=>cases g<;>exact ih _
    | _=>rfl
def onVCons (f:KV→KV→KV) (z:KV) (v:KV):KV:=@KV.rec (fun _=>(KV→KV→KV)→KV→KV) (fun _ _ _ z=>z) (fun _ _ z=>z) (fun _ _ _ z=>z) (fun _ z=>z) (fun x0 x1 _ _ f _=>f x0 x1) (fun _ _ _ _ z=>z) (fun _ _ _ _ _ _ z=>z) (fun _ z=>z) (fun _ _ _ _ _ _ _ _ _ z=>z) (fun _ _ _ _ _ _ _ _ _ _ _ z=>z) (fun _ _ _ _ z=>z) (fun _ _ _ _ z=>z) (fun _ _ _ _ _ _ _ z=>z) (fun _ _ _ _ _ z=>z) (fun _ z=>z) (fun _ z=>z) (fun _ z=>z) (fun _ _ _ _ _ _ _ _ z=>z) (fun _ _ _ _ z=>z) (fun _ _ _ z=>z) (fun _ z=>z) (fun _=>(fun _ z=>z)) (fun _ _ _=>(fun _ z=>z)) (fun _ _=>(fun _ z=>z)) v f z
def onVPk (f:IntKind→Nat→Nat→KV) (z:KV) (v:KV):KV:=@KV.rec (fun _=>(IntKind→Nat→Nat→KV)→KV→KV) (fun _ _ _ z=>z) (fun _ _ z=>z) (fun _ _ _ z=>z) (fun _ z=>z) (fun _ _ _ _ _ z=>z) (fun x0 x1 x2 f _=>f x0 x1 x2) (fun _ _ _ _ _ _ z=>z) (fun _ z=>z) (fun _ _ _ _ _ _ _ _ _ z=>z) (fun _ _ _ _ _ _ _ _ _ _ _ z=>z) (fun _ _ _ _ z=>z) (fun _ _ _ _ z=>z) (fun _ _ _ _ _ _ _ z=>z) (fun _ _ _ _ _ z=>z) (fun _ z=>z) (fun _ z=>z) (fun _ z=>z) (fun _ _ _ _ _ _ _ _ z=>z) (fun _ _ _ _ z=>z) (fun _ _ _ z=>z) (fun _ z=>z) (fun _=>(fun _ z=>z)) (fun _ _ _=>(fun _ z=>z)) (fun _ _=>(fun _ z=>z)) v f z
def onVAr (f:Nat→KV→KV→KV) (z:KV) (v:KV):KV:=@KV.rec (fun _=>(Nat→KV→KV→KV)→KV→KV) (fun _ _ _ z=>z) (fun _ _ z=>z) (fun _ _ _ z=>z) (fun _ z=>z) (fun _ _ _ _ _ z=>z) (fun _ _ _ _ z=>z) (fun x0 x1 x2 _ _ f _=>f x0 x1 x2) (fun _ z=>z) (fun _ _ _ _ _ _ _ _ _ z=>z) (fun _ _ _ _ _ _ _ _ _ _ _ z=>z) (fun _ _ _ _ z=>z) (fun _ _ _ _ z=>z) (fun _ _ _ _ _ _ _ z=>z) (fun _ _ _ _ _ z=>z) (fun _ z=>z) (fun _ z=>z) (fun _ z=>z) (fun _ _ _ _ _ _ _ _ z=>z) (fun _ _ _ _ z=>z) (fun _ _ _ z=>z) (fun _ z=>z) (fun _=>(fun _ z=>z)) (fun _ _ _=>(fun _ z=>z)) (fun _ _=>(fun _ z=>z)) v f z
def onVFa (f:Nat→(Nat→KV)→KV) (z:KV) (v:KV):KV:=@KV.rec (fun _=>(Nat→(Nat→KV)→KV)→KV→KV) (fun _ _ _ z=>z) (fun _ _ z=>z) (fun _ _ _ z=>z) (fun _ z=>z) (fun _ _ _ _ _ z=>z) (fun _ _ _ _ z=>z) (fun _ _ _ _ _ _ z=>z) (fun _ z=>z) (fun _ _ _ _ _ _ _ _ _ z=>z) (fun _ _ _ _ _ _ _ _ _ _ _ z=>z) (fun _ _ _ _ z=>z) (fun _ _ _ _ z=>z) (fun _ _ _ _ _ _ _ z=>z) (fun _ _ _ _ _ z=>z) (fun _ z=>z) (fun _ z=>z) (fun _ z=>z) (fun _ _ _ _ _ _ _ _ z=>z) (fun _ _ _ _ z=>z) (fun _ _ _ z=>z) (fun _ z=>z) (fun _=>(fun _ z=>z)) (fun x0 x1 _ f _=>f x0 x1) (fun _ _ _ z=>z) v f z
section
variable [Gl]
def fN (m:Nat) (K:Nat→Prop):Prop:=@Bool.rec (fun _=>Prop) (K m) (forceN m K) Gl.cl
theorem fN_eq (m:Nat) (K:Nat→Prop):fN m K=K m:=by
  unfold fN
  cases Gl.cl
  · rfl
  · exact forceN_eq m K
def fI (m:Int) (K:Int→Prop):Prop:=@Bool.rec (fun _=>Prop) (K m) (@Int.rec (fun _=>Prop) (fun n=>forceN n fun n=>K (.ofNat n)) (fun n=>forceN n fun n=>K (.negSucc n)) m) Gl.cl
theorem fI_eq (m:Int) (K:Int→Prop):fI m K=K m:=by
  unfold fI
  cases Gl.cl
  · rfl
  · cases m
    · exact forceN_eq _ _
    · exact forceN_eq _ _
def fB (b:Bool) (K:Bool→Prop):Prop:=@Bool.rec (fun _=>Prop) (K b) (@Bool.rec (fun _=>Prop) (K false) (K true) b) Gl.cl
theorem fB_eq (b:Bool) (K:Bool→Prop):fB b K=K b:=by
  unfold fB
  cases Gl.cl
  · rfl
  · cases b<;>rfl
def fV (v:KV) (K:KV→Prop):Prop:=@KV.rec (fun _=>(KV→Prop)→Prop) (fun x0 x1 K=>fI x1 fun x1=>K (.int x0 x1)) (fun x0 K=>fB x0 fun x0=>K (.bool x0)) (fun x0 x1 K=>fN x0 fun x0=>fN x1 fun x1=>K (.str x0 x1)) (fun K=>K (.nl)) (fun x0 x1 _ _ K=>K (.cons x0 x1)) (fun x0 x1 x2 K=>fN x2 fun x2=>K (.pk x0 x1 x2)) (fun x0 x1 x2 _ _ K=>K (.ar x0 x1 x2)) (fun K=>K (.te)) (fun x0 x1 x2 x3 _ _ _ _ K=>K (.tb x0 x1 x2 x3)) (fun x0 x1 x2 x3 x4 _ _ _ _ _ K=>K (.tn x0 x1 x2 x3 x4)) (fun x0 x1 x2 K=>K (.ptr x0 x1 x2)) (fun x0 x1 x2 K=>K (.row x0 x1 x2)) (fun x0 x1 x2 x3 x4 x5 K=>K (.sl x0 x1 x2 x3 x4 x5)) (fun x0 x1 x2 _ K=>K (.ref x0 x1 x2)) (fun K=>K (.nilp)) (fun K=>K (.nils)) (fun K=>K (.nilf)) (fun x0 x1 x2 x3 x4 x5 _ K=>K (.ro x0 x1 x2 x3 x4 x5)) (fun x0 x1 _ K=>K (.fn x0 x1)) (fun x0 _ K=>K (.tup x0)) (fun K=>K (.unk)) (fun x0=>fun K=>K (.yld x0)) (fun x0 x1 _ K=>K (.fa x0 x1)) (fun x0 _ K=>K (.clo x0)) v K
theorem fV_eq (v:KV) (K:KV→Prop):fV v K=K v:=by
  cases v with
  | int k n=>exact fI_eq n (fun x1=>K (.int k x1))
  | bool b=>exact fB_eq b (fun b=>K (.bool b))
  | pk k n x=>exact fN_eq x (fun x=>K (.pk k n x))
  | str n x=>exact (fN_eq n (fun n=>fN x fun x=>K (.str n x))).trans (fN_eq x (fun x=>K (.str n x)))
  | _=>rfl
end
def kset (x:KV):Pth→KV→KV
  | [],.tb a b c d=>.tn x a b c d
  | [],.tn _ a b c d=>.tn x a b c d
  | [],_=>.tn x .te .te .te .te
  | .a::p,.tb a b c d=>.tb (kset x p a) b c d
  | .b::p,.tb a b c d=>.tb a (kset x p b) c d
  | .c::p,.tb a b c d=>.tb a b (kset x p c) d
  | .d::p,.tb a b c d=>.tb a b c (kset x p d)
  | .a::p,.tn y a b c d=>.tn y (kset x p a) b c d
  | .b::p,.tn y a b c d=>.tn y a (kset x p b) c d
  | .c::p,.tn y a b c d=>.tn y a b (kset x p c) d
  | .d::p,.tn y a b c d=>.tn y a b c (kset x p d)
  | .a::p,_=>.tb (kset x p .te) .te .te .te
  | .b::p,_=>.tb .te (kset x p .te) .te .te
  | .c::p,_=>.tb .te .te (kset x p .te) .te
  | .d::p,_=>.tb .te .te .te (kset x p .te)
theorem at_te (p:Pth) (z:V):KV.te.atv p z=z:=rfl
theorem kset_same (x:KV) (z:V):∀(p:Pth) (t:KV),(kset x p t).atv p z=x.v
  | [],t=>by cases t<;>rfl
  | g::p,t=>by
    have ih:=kset_same x z p
    cases t<;>cases g<;>exact ih _
theorem kset_ne (x:KV) (z:V):∀(p q:Pth) (t:KV),p≠q→(kset x q t).atv p z=t.atv p z
  | [],[],t,h=>absurd rfl h
  | [],g::q,t,_=>by cases t<;>cases g<;>rfl
  | g::p,[],t,_=>by cases t<;>first | rfl | (cases g<;>rfl)
  | g::p,g'::q,t,h=>by
    by_cases hg:g=g'
    · subst hg
      have ih:=fun t=>kset_ne x z p q t (fun e=>h (by rw[e]))
      cases t<;>cases g<;>exact ih _
    · cases t<;>cases g<;>cases g'<;>first | exact absurd rfl hg | rfl
theorem kset_at (x:KV) (z:V) (i j:Nat) (t:KV):(kset x (enc j) t).atv (enc i) z=if i=j then x.v else t.atv (enc i) z:=by
  by_cases h:i=j
  · subst h; rw[if_pos rfl,kset_same]
  · rw[if_neg h,kset_ne x z _ _ t (enc_ne h)]
def ks4 (g:Dg) (ih:KV→(KV→Prop)→Prop) (a b c d:KV) (M:KV→KV→KV→KV→Prop):Prop:=@Dg.rec (fun _=>Prop) (ih a fun a=>M a b c d) (ih b fun b=>M a b c d) (ih c fun c=>M a b c d) (ih d fun d=>M a b c d) g
def ksetK (x:KV) (p:Pth):KV→(KV→Prop)→Prop:=@List.rec Dg (fun _=>KV→(KV→Prop)→Prop) (fun t K=>@KV.rec (fun _=>Prop) (fun _ _=>K (.tn x .te .te .te .te)) (fun _=>K (.tn x .te .te .te .te)) (fun _ _=>K (.tn x .te .te .te .te)) (K (.tn x .te .te .te .te)) (fun _ _ _ _=>K (.tn x .te .te .te .te)) (fun _ _ _=>K (.tn x .te .te .te .te)) (fun _ _ _ _ _=>K (.tn x .te .te .te .te)) (K (.tn x .te .te .te .te)) (fun x0 x1 x2 x3 _ _ _ _=>K (.tn x x0 x1 x2 x3)) (fun x0 x1 x2 x3 x4 _ _ _ _ _=>K (.tn x x1 x2 x3 x4)) (fun _ _ _=>K (.tn x .te .te .te .te)) (fun _ _ _=>K (.tn x .te .te .te .te)) (fun _ _ _ _ _ _=>K (.tn x .te .te .te .te)) (fun _ _ _ _=>K (.tn x .te .te .te .te)) (K (.tn x .te .te .te .te)) (K (.tn x .te .te .te .te)) (K (.tn x .te .te .te .te)) (fun _ _ _ _ _ _ _=>K (.tn x .te .te .te .te)) (fun _ _ _=>K (.tn x .te .te .te .te)) (fun _ _=>K (.tn x .te .te .te .te)) (K (.tn x .te .te .te .te)) (fun _=>(K (.tn x .te .te .te .te))) (fun _ _ _=>(K (.tn x .te .te .te .te))) (fun _ _=>(K (.tn x .te .te .te .te))) t) (fun g _ ih t K=>@KV.rec (fun _=>Prop) (fun _ _=>ks4 g ih .te .te .te .te fun a b c d=>K (.tb a b c d)) (fun _=>ks4 g ih .te .te .te .te fun a b c d=>K (.tb a b c d)) (fun _ _=>ks4 g ih .te .te .te .te fun a b c d=>K (.tb a b c d)) (ks4 g ih .te .te .te .te fun a b c d=>K (.tb a b c d)) (fun _ _ _ _=>ks4 g ih .te .te .te .te fun a b c d=>K (.tb a b c d)) (fun _ _ _=>ks4 g ih .te .te .te .te fun a b c d=>K (.tb a b c d)) (fun _ _ _ _ _=>ks4 g ih .te .te .te .te fun a b c d=>K (.tb a b c d)) (ks4 g ih .te .te .te .te fun a b c d=>K (.tb a b c d)) (fun x0 x1 x2 x3 _ _ _ _=>ks4 g ih x0 x1 x2 x3 fun a b c d=>K (.tb a b c d)) (fun x0 x1 x2 x3 x4 _ _ _ _ _=>ks4 g ih x1 x2 x3 x4 fun a b c d=>K (.tn x0 a b c d)) (fun _ _ _=>ks4 g ih .te .te .te .te fun a b c d=>K (.tb a b c d)) (fun _ _ _=>ks4 g ih .te .te .te .te fun a b c d=>K (.tb a b c d)) (fun _ _ _ _ _ _=>ks4 g ih .te .te .te .te fun a b c d=>K (.tb a b c d)) (fun _ _ _ _=>ks4 g ih .te .te .te .te fun a b c d=>K (.tb a b c d)) (ks4 g ih .te .te .te .te fun a b c d=>K (.tb a b c d)) (ks4 g ih .te .te .te .te fun a b c d=>K (.tb a b c d)) (ks4 g ih .te .te .te .te fun a b c d=>K (.tb a b c d)) (fun _ _ _ _ _ _ _=>ks4 g ih .te .te .te .te fun a b c d=>K (.tb a b c d)) (fun _ _ _=>ks4 g ih .te .te .te .te fun a b c d=>K (.tb a b c d)) (fun _ _=>ks4 g ih .te .te .te .te fun a b c d=>K (.tb a b c d)) (ks4 g ih .te .te .te .te fun a b c d=>K (.tb a b c d)) (fun _=>(ks4 g ih .te .te .te .te fun a b c d=>K (.tb a b c d))) (fun _ _ _=>(ks4 g ih .te .te .te .te fun a b c d=>K (.tb a b c d))) (fun _ _=>(ks4 g ih .te .te .te .te fun a b c d=>K (.tb a b c d))) t) p
theorem ksetK_eq (x:KV):∀(p:Pth) (t:KV) (K:KV→Prop),ksetK x p t K=K (kset x p t)
  | [],t,K=>by cases t<;>rfl
  | g::p,t,K=>by
    have ih:=ksetK_eq x p
    cases t<;>cases g<;>exact ih _ _
def allLt (n:Nat) (p:Nat→Bool):Bool:=@decide (∀ i,i < n→p i=true) (Classical.propDecidable _)
def allAl (p:Nat→Bool):Bool:=@decide (∀ i,p i=true) (Classical.propDecidable _)
theorem allAl_iff {p:Nat→Bool}:allAl p=true↔∀ i,p i=true:=@decide_eq_true_iff _ (Classical.propDecidable _)
theorem allLt_iff {n:Nat}{p:Nat→Bool}:allLt n p=true↔∀ i,i < n→p i=true:=@decide_eq_true_iff _ (Classical.propDecidable _)
def kfld (k:Nat):KV→KV:=@Nat.rec (fun _=>KV→KV) (fun v=>onVCons (fun a _=>a) .unk v) (fun _ ih v=>onVCons (fun _ b=>ih b) .unk v) k
theorem kfld_v:∀(k:Nat) (v:KV),(kfld k v).v=v.v.fld k
  | 0,v=>by cases v<;>first | rfl | exact (cloV_fld _ _).symm
  | k + 1,v=>by
    have ih:=kfld_v k
    cases v<;>first | exact ih _ | rfl | exact (cloV_fld _ _).symm
def isTeB (t:KV):Bool:=match t with
  | .te=>true
  | _=>false
def kgetE (d:KV) (i:Nat) (t:KV):KV:=@Bool.rec (fun _=>KV) (kget d (enc i) t) d (isTeB t)
theorem kgetE_v (d:KV) (i:Nat) (t:KV):(kgetE d i t).v=t.atv (enc i) d.v:=by
  unfold kgetE
  cases h:isTeB t with
  | false=>exact kget_v d (enc i) t
  | true=>cases t<;>first | rfl | cases h
def kidx (i:Nat) (v:KV):KV:=onVPk (fun k _ x=>.int k (pkg k x i)) (onVAr (fun _ d t=>kgetE d i t) (onVFa (fun _ f=>f i) .unk v) v) v
theorem kidx_v (i:Nat) (v:KV):(kidx i v).v=v.v.step (.idx i):=by
  cases v with
  | ar n d t=>exact kgetE_v d i t
  | clo x=>exact (cloV_idx _ _).symm
  | _=>rfl
def ksub (off n:Nat) (v:KV):KV:=onVPk (fun k _ x=>.pk k n (Nat.shiftRight x (Nat.mul (wd k) off))) (onVFa (fun _ f=>.fa n fun i=>f (Nat.add off i)) .unk v) v
def kstep (v:KV) (s:Step):KV:=@Step.rec (fun _=>KV) (fun k=>kfld k v) (fun i=>kidx i v) (fun off n=>ksub off n v) s
def isPkB (v:KV):Bool:=match v with
  | .pk _ _ _=>true
  | .fa _ _=>true
  | _=>false
def stpOk (v:KV) (s:Step):Bool:=@Step.rec (fun _=>Bool) (fun _=>true) (fun _=>true) (fun _ _=>isPkB v) s
theorem kstep_v (v:KV) (s:Step) (hs:stpOk v s=true):(kstep v s).v=v.v.step s:=by
  cases s with
  | fld k=>exact kfld_v k v
  | idx i=>exact kidx_v i v
  | sub off n =>
    cases v<;>first | (cases hs; done) | rfl | skip
    rename_i k m x
    show V.arr n (fun i=>.int k (pkg k (Nat.shiftRight x (Nat.mul (wd k) off)) i))=V.arr n fun i=>.int k (pkg k x (off + i))
    congr 1
    funext i
    have:pkr k (Nat.shiftRight x (Nat.mul (wd k) off)) i=pkr k x (off + i):=by
      apply Nat.eq_of_testBit_eq; intro q
      show (bts (Nat.shiftRight x (Nat.mul (wd k) off)) (Nat.mul (wd k) i) (wd k)).testBit q=(bts x (Nat.mul (wd k) (off + i)) (wd k)).testBit q
      rw[bts_bit,bts_bit]
      congr 1
      show (x >>> (wd k * off)).testBit (wd k * i + q)=x.testBit (wd k * (off + i) + q)
      rw[Nat.testBit_shiftRight]
      congr 1
      rw[Nat.mul_add]; omega
    unfold pkg
    rw[this]
def pthOk (p:List Step):KV→Bool:=@List.rec Step (fun _=>KV→Bool) (fun _=>true) (fun s _ ih v=>@Bool.rec (fun _=>Bool) false (ih (kstep v s)) (stpOk v s)) p
def kpath (p:List Step):KV→KV:=@List.rec Step (fun _=>KV→KV) (fun v=>v) (fun s _ ih v=>ih (kstep v s)) p
theorem kpath_v:∀(p:List Step) (v:KV),pthOk p v=true→(kpath p v).v=v.v.path p
  | [],v,_=>rfl
  | s::p,v,h=>by
    have h0:@Bool.rec (fun _=>Bool) false (pthOk p (kstep v s)) (stpOk v s)=true:=h
    cases hs:stpOk v s with
    | false=>rw[hs] at h0; cases h0
    | true =>
      rw[hs] at h0
      show (kpath p (kstep v s)).v=(v.v.step s).path p
      rw[kpath_v p _ h0,kstep_v _ _ hs]
section
variable [Gl]
def kfldK (k:Nat) (u:KV→(KV→Prop)→Prop):KV→(KV→Prop)→Prop:=@Nat.rec (fun _=>KV→(KV→Prop)→Prop) (fun v K=>onCons (fun a b=>u a fun a=>K (.cons a b)) (BadN 20) v) (fun _ ih v K=>onCons (fun a b=>ih b fun b=>K (.cons a b)) (BadN 20) v) k
def nilL (p:List Step):Bool:=@List.rec Step (fun _=>Bool) true (fun _ _ _=>false) p
def ifN (j i:Nat) (a b:KV):KV:=@Bool.rec (fun _=>KV) b a (Nat.beq j i)
omit [Gl] in
theorem ifN_eq (j i:Nat) (a b:KV):ifN j i a b=if j=i then a else b:=by
  unfold ifN
  by_cases h:j=i
  · subst h; rw[Nat.beq_refl,if_pos rfl]
  · rw[if_neg h]
    have:Nat.beq j i=false:=by
      cases hb:Nat.beq j i with
      | false=>rfl
      | true=>exact absurd (Nat.eq_of_beq_eq_true hb) h
    rw[this]
def kidxK (x:KV) (r:List Step) (i:Nat) (ih:KV→(KV→Prop)→Prop) (v:KV) (K:KV→Prop):Prop :=
  onPk (fun k n y=>onInt (fun k' a=>cnd (ikEq k k'&&inR k a&&nilL r) (fN (pks k y i a) fun y=>K (.pk k n y))) (BadN 21) x)
    (onAr (fun n d t=>ih (kget d (enc i) t) fun y=>ksetK y (enc i) t fun t=>K (.ar n d t)) (onFa (fun n f=>ih (f i) fun y=>K (.fa n fun j=>ifN j i y (f j))) (BadN 22) v) v) v
def ksetP (x:KV) (p:List Step):KV→(KV→Prop)→Prop:=@List.rec Step (fun _=>KV→(KV→Prop)→Prop) (fun _ K=>K x) (fun s r ih v K=>@Step.rec (fun _=>Prop) (fun k=>kfldK k ih v K) (fun i=>kidxK x r i ih v K) (fun _ _=>BadN 252) s) p
omit [Gl] in
theorem kfldK_s {u:KV→(KV→Prop)→Prop}{g:V→V}(hu:∀ v K,u v K→∃ v',K v'∧v'.v=g v.v):∀(k:Nat) (v:KV) (K:KV→Prop),kfldK k u v K→∃ v',K v'∧v'.v=v.v.setFld k g
  | 0,v,K,h=>by
    rcases onCons_inv (show onCons (fun a b=>u a fun a=>K (.cons a b)) (BadN 20) v from h) with ⟨a,b,rfl,h1⟩ | ⟨_,h1⟩
    · obtain⟨a',h2,h3⟩:=hu _ _ h1
      exact⟨_,h2,by rw[v_cons,h3]; rfl⟩
    · exact h1.elim
  | k + 1,v,K,h=>by
    rcases onCons_inv (show onCons (fun a b=>kfldK k u b fun b=>K (.cons a b)) (BadN 20) v from h) with ⟨a,b,rfl,h1⟩ | ⟨_,h1⟩
    · obtain⟨b',h2,h3⟩:=kfldK_s hu k _ _ h1
      exact⟨_,h2,by rw[v_cons,h3]; rfl⟩
    · exact h1.elim
theorem ksetP_s (x:KV):∀(p:List Step) (v:KV) (K:KV→Prop),ksetP x p v K→∃ v',K v'∧v'.v=V.set p x.v v.v
  | [],v,K,h=>⟨x,h,rfl⟩
  | .fld k::p,v,K,h=>kfldK_s (ksetP_s x p) k v K h
  | .idx i::p,v,K,h=>by
    have h0:kidxK x p i (ksetP x p) v K:=h
    rcases onPk_inv h0 with ⟨k,n,y,rfl,h1⟩ | ⟨_,h1⟩
    · rcases onInt_inv h1 with ⟨k',a,rfl,h2⟩ | ⟨_,h2⟩
      · obtain⟨h3,h4⟩:=cnd_iff.1 h2
        rw[fN_eq] at h4
        simp only[Bool.and_eq_true] at h3
        obtain rfl:=ikEq_eq h3.1.1
        refine⟨_,h4,?_⟩
        have hp:p=[]:=by cases p with | nil=>rfl | cons _ _=>cases h3.2
        subst hp
        show V.arr n _=V.arr n fun j=>V.ite (j==i) (.int k a) (.int k (pkg k y j))
        congr 1
        funext j
        rw[pkg_pks h3.1.2,V.ite_eq]
        by_cases hj:j=i
        · subst hj; simp
        · have:(j==i)=false:=by simpa using hj
          rw[if_neg hj,this]; rfl
      · exact h2.elim
    · rcases onAr_inv h1 with ⟨n,d,t,rfl,h2⟩ | ⟨_,h2⟩
      · obtain⟨y,h3,h4⟩:=ksetP_s x p _ _ h2
        rw[ksetK_eq] at h3
        refine⟨_,h3,?_⟩
        rw[v_ar,v_ar]
        show V.arr n _=V.arr n fun j=>V.ite (j==i) (V.set p x.v (t.atv (enc j) d.v)) (t.atv (enc j) d.v)
        congr 1
        funext j
        rw[kset_at,V.ite_eq,h4,kget_v]
        by_cases hj:j=i
        · subst hj; simp
        · have:(j==i)=false:=by simpa using hj
          rw[if_neg hj,this]; rfl
      · rcases onFa_inv h2 with ⟨n,f,rfl,h2⟩ | ⟨_,h2⟩
        · obtain⟨y,h3,h4⟩:=ksetP_s x p _ _ h2
          refine⟨_,h3,?_⟩
          rw[v_fa,v_fa]
          show V.arr n _=V.arr n fun j=>V.ite (j==i) (V.set p x.v (f j).v) (f j).v
          congr 1
          funext j
          rw[ifN_eq,V.ite_eq]
          by_cases hj:j=i
          · subst hj; simp [h4]
          · have:(j==i)=false:=by simpa using hj
            rw[if_neg hj,this]; rfl
        · exact h2.elim
  | .sub _ _::p,v,K,h=>(show BadN 252 from h).elim
end
end
end Go.K
set_option linter.constructorNameAsVariable false
namespace Go.K
open Go.Ab Go.RowKit Go.Y
noncomputable section
section
variable {P:Program}{F:Fence}{n:Nat}{Q:Exit→Act→World→Prop}{a:Act}{w:World}
theorem wpIn_ghost {c:Code}(I:Nat→Act→World→Prop) (n₀:Nat) (h₀:I n₀ a w) (round:∀ k a w,I k a w→c.wpIn F n P (Exit.then (fun a' w'=>∃ k',k' < k∧I k' a' w') Q) a w):(Code.loop c).wpIn F n P Q a w:=by
  refine wpIn_loop (fun a w=>∃ k,I k a w) (fun a w=>leastOf fun k=>I k a w) ⟨n₀,h₀⟩ fun a w hI=>wpIn_mono (round _ a w (leastOf_spec hI).1) ?_
  intro e a' w' hq
  cases e with
  | normal=>obtain⟨k',hlt,hI'⟩:=hq; exact⟨⟨k',hI'⟩,Nat.lt_of_le_of_lt ((leastOf_spec ⟨k',hI'⟩).2 _ hI') hlt⟩
  | _=>exact hq
theorem wpIn_sc {c:Code}(h:c.wpIn F n P (Exit.noGoto Q) a w):(Code.scope c).wpIn F n P Q a w:=by
  intro b k cs hro hb hr
  have h0:(lone (b.atR a (.code (.scope c)::k)) cs w).fenced P F:=fenced_calm hb hr rfl
  have hs:step P (lone (b.atR a (.code (.scope c)::k)) cs w)=.next (lone (b.atR a (.code c::.inScope c::k)) cs w):=step_lone_go (by simp [stepG,stepG.exec,Frame.atR])
  obtain⟨e,a₁,w₁,hq,harr⟩:=h b (.inScope c::k) cs hro hb hr
  cases e with
  | normal =>
    have hs2:step P (lone (b.atR a₁ (.inScope c::k)) cs w₁)=.next (lone (b.atR a₁ k) cs w₁):=step_lone_go (by simp [stepG,stepG.exec,Frame.atR])
    exact⟨.normal,a₁,w₁,hq,.head h0 hs (StepsIn.trans harr (.one (fenced_calm (fr:=b.atR a₁ (.inScope c::k)) hb hr rfl) hs2))⟩
  | exit id =>
    have hx:exitTo id (.inScope c::k)=exitTo id k:=by simp [exitTo]
    exact⟨_,a₁,w₁,hq,fun k' hk=>.head h0 hs (harr.1 k' (by rw[hx]; exact hk)),fun hr' hk=>let ⟨k₁,h1,h2⟩:=harr.2 hr' (by rw[hx]; exact hk); ⟨k₁,h1,.head h0 hs h2⟩⟩
  | goto l=>exact hq.elim
  | ret=>exact⟨_,a₁,w₁,hq,.of_steps (.one h0 hs) harr⟩
  | panic ch=>exact⟨_,a₁,w₁,hq,.of_steps (.one h0 hs) harr⟩
  | outgrown=>exact⟨_,a₁,w₁,hq,.of_steps (b:=b) (k:=k) (cs:=cs) (e:=.outgrown) (.one h0 hs) harr⟩
def setW (w:World) (l:Nat) (o:Obj):World:={ w with heap:=w.heap.setIfInBounds l o }
theorem setW_same {l:Nat}{o:Obj}(h:l < w.heap.size):(setW w l o).heap[l]?=some o:=by simp [setW,h]
theorem setW_other {l k:Nat}{o:Obj}(h:k≠l):(setW w l o).heap[k]?=w.heap[k]?:=by simp [setW,Array.getElem?_setIfInBounds_ne (Ne.symm h)]
theorem setW_size {l:Nat}{o:Obj}:(setW w l o).heap.size=w.heap.size:=by simp [setW]
theorem get_loop {l:Nat}{r:Loop}(h:w.heap[l]?=some (.loop r)):(Instr.getLoop l).run P w=.ok r w:=by
  have:(getObj l).run P w=.ok (.loop r) w:=by simp [getObj,Sem.run,h]
  simp [Instr.getLoop,Sem.run_bind,this,Result.andThen]
theorem set_loop {l:Nat}{r:Loop}(o:Obj) (h:w.heap[l]?=some (.loop r)):(setObj l o).run P w=.ok () (setW w l o):=by simp [setObj,Sem.run,h,setW]
theorem enter_outer (fn:FuncId) (tmps:Array Value) (ps:Array Tmp) (a b:Code) :
    (Instr.enterLoop fn tmps ps a b none).run P w=.ok (w.heap.size + 1,[{ target:=.collected w.heap.size,args:=#[] }]) ((w.alloc (.deferred (some []))).alloc (.loop ⟨.ready,none,fn,tmps,ps,a,b,w.heap.size⟩)):=by
  unfold Instr.enterLoop
  simp only[Sem.run_bind,run_newObj_alloc,Result.andThen,Sem.run_pure,World.size_alloc]
theorem enter_inner {l:Nat}{r:Loop}(h:w.heap[l]?=some (.loop r)) (fn:FuncId) (tmps:Array Value) (ps:Array Tmp) (a b:Code) :
    (Instr.enterLoop fn tmps ps a b (some l)).run P w=.ok (w.heap.size,[]) (w.alloc (.loop ⟨.ready,none,fn,tmps,ps,a,b,r.defers⟩)):=by
  unfold Instr.enterLoop
  simp only[Sem.run_bind,get_loop h,run_newObj_alloc,Result.andThen,Sem.run_pure]
theorem yield_run {l:Nat}{r:Loop}{args:Array Value}(h:w.heap[l]?=some (.loop r)) (hs:args.size=r.params.size) :
    (Instr.yield l args).run P w=.ok (.round l r.fn ((r.params.zip args).foldl (fun tmps (t,a)=>tmps.setIfInBounds t a) r.tmps) r.assign r.body) w:=by
  simp [Instr.yield,Sem.run_bind,get_loop h,Result.andThen,hs]
theorem begin_run {l:Nat}{r:Loop}(h:w.heap[l]?=some (.loop r)) (hr:r.state=.ready):(Instr.beginRound l).run P w=.ok () (setW w l (.loop { r with state:=.busy })):=by
  simp [Instr.beginRound,Sem.run_bind,get_loop h,set_loop _ h,Result.andThen,hr]
theorem end_run {l:Nat}{r:Loop}(j:Option Code) (h:w.heap[l]?=some (.loop r)) :
    (Instr.endRound l j).run P w=.ok (.bool j.isNone) (setW w l (.loop { r with state:=if j.isNone then .ready else .done,pending:=j })):=by
  simp [Instr.endRound,Sem.run_bind,get_loop h,set_loop _ h,Result.andThen]
theorem fin_run {l:Nat}{r:Loop}(h:w.heap[l]?=some (.loop r)) (hb:r.state≠.busy):(Instr.endLoop l).run P w=.ok r.pending (setW w l (.loop { r with state:=.exhausted })):=by
  simp [Instr.endLoop,Sem.run_bind,get_loop h,set_loop _ h,Result.andThen,hb]
theorem take_run {D:Nat}(h:w.heap[D]?=some (.deferred (some []))):(Instr.takeDeferred D).run P w=.ok [] (setW w D (.deferred none)):=by
  simp [Instr.takeDeferred,Sem.run_bind,getObj,setObj,Sem.run,h,Result.andThen,setW]
def jmp:Exit→Option (Option Code)
  | .normal=>some none
  | .ret=>some (some .ret)
  | .exit i=>some (some (.exit i))
  | _=>none
theorem round_of {ro:Option Nat}{l:Nat}{f:FuncId}{tmps:Array Value}{x y:Code}{R:Ending→World→Prop}
    (h:x.wpIn (FR (some l)) 0 P (fun e a₁ w₁=>e=.normal∧∃ w₂,(Instr.beginRound l).run P w₁=.ok () w₂∧y.wpIn (FR (some l)) 0 P (fun e a w=>∃ j v w',jmp e=some j∧(Instr.endRound l j).run P w=.ok v w'∧R (.returned v) w') a₁ w₂) { tmps:=tmps,defers:=[] } w) :
    RoundIn (FR ro) 0 P l f tmps x y w R:=by
  refine⟨trivial,fun c cs hr=>?_⟩
  let b:Frame:={ (default:Frame) with fn:=f,kind:=.normal,roundOf:=some l }
  have hb0:Frame.round l f tmps x y .normal=b.atR { tmps:=tmps,defers:=[] } [.code x,.beginRound,.code y]:=by simp [Frame.round,Frame.atR,b]
  have hr':(FR (some l)).room ((c::cs).length + 1 + 0):=fun d hd=>by cases hd
  obtain⟨e,a₁,w₁,hq,harr⟩:=h b [.beginRound,.code y] (c::cs) rfl trivial hr'
  rw[←hb0] at harr
  obtain⟨rfl,w₂,hbr,hbody⟩:=hq
  have s1:StepsIn (Machine.fenced P (FR (some l))) P (lone (b.atR a₁ [.beginRound,.code y]) (c::cs) w₁) (lone (b.atR a₁ [.code y]) (c::cs) w₂) :=
    .one (fenced_calm (n:=0) (fr:=b.atR a₁ [.beginRound,.code y]) trivial hr' rfl) (stepR_beginRound rfl hbr)
  obtain⟨e₂,a₂,w₃,⟨j,v,w₄,hj,hend,hR⟩,harr₂⟩:=hbody b [] (c::cs) rfl trivial hr'
  refine⟨.returned v,w₄,hR,?_⟩
  show StepsIn (Machine.fenced P (FR (some l))) P (lone (Frame.round l f tmps x y .normal) (c::cs) w) (lone (c.finish v) cs w₄)
  cases e₂ with
  | normal =>
    obtain rfl:none=j:=Option.some.inj hj
    exact (StepsIn.trans harr s1).trans (StepsIn.trans harr₂ (.one (fenced_calm (n:=0) (fr:=b.atR a₂ []) trivial hr' rfl) (stepR_round_end rfl rfl hend)))
  | ret =>
    obtain rfl:some .ret=j:=Option.some.inj hj
    obtain⟨k₁,hs⟩:=harr₂.2 rfl
    exact (StepsIn.trans harr s1).trans (StepsIn.trans hs (.one (fenced_calm (n:=0) (fr:=b.atR a₂ (.code .ret::k₁)) trivial hr' rfl) (stepR_round_ret rfl rfl hend)))
  | exit id =>
    obtain rfl:some (.exit id)=j:=Option.some.inj hj
    obtain⟨k₁,hk,hs⟩:=harr₂.2 rfl rfl
    exact (StepsIn.trans harr s1).trans (StepsIn.trans hs (.one (fenced_calm (n:=0) (fr:=b.atR a₂ (.code (.exit id)::k₁)) trivial hr' rfl) (stepR_round_exit rfl rfl hk hend)))
  | goto t=>cases hj
  | panic chain=>cases hj
  | outgrown=>cases hj
theorem range_of {ro:Option Nat}{g:Operand}{ps:Array Tmp}{x y:Code}
    (h:∀ fn,∃ l mark w₁ gf lb,(Instr.enterLoop fn a.tmps ps x y ro).run P w=.ok (l,mark) w₁∧a.eval g=.func (.func gf) #[] lb∧(∀ args w,(callFunc gf args).run P w=.ok (.enter gf args) w) ∧
      Calls P gf (#[.func (.yield l) #[] #[]]++lb) w₁ fun e w₃=>∃ v j w₄,e=.returned v∧(Instr.endLoop l).run P w₃=.ok j w₄∧match j with
        | none=>Q .normal { a with defers:=mark++a.defers } w₄
        | some c=>c.wpIn (FR ro) 0 P Q { a with defers:=mark++a.defers } w₄) :
    (Code.rangeFunc g ps x y).wpIn (FR ro) 0 P Q a w:=by
  intro b k cs hro hb hr
  obtain⟨l,mark,w₁,gf,lb,he,hg,hcf,hcall⟩:=h b.fn
  have hro':b.roundOf=ro:=hro
  rw[←hro'] at he
  have h0:(lone (b.atR a (.code (.rangeFunc g ps x y)::k)) cs w).fenced P (FR ro):=fenced_lone (.inl trivial) (fun _ _=>trivial) (fun d hd=>by cases hd)
  have hres:(resolve a.eval ({ callee:=.value g,args:=#[.const (.func (.yield l) #[] #[])],argTypes:=#[] }:Call) 0).run P w₁=.ok { target:=.fn (.func gf) lb,args:=#[.func (.yield l) #[] #[]] } w₁:=by
    simp only[resolve,hg]
    simp [go_sem]
  have hinv:(invoke (.fn (.func gf) lb) #[.func (.yield l) #[] #[]]).run P w₁=.ok (.enter gf (#[.func (.yield l) #[] #[]]++lb)) w₁:=by simp [invoke,go_sem,hcf]
  have henter:step P (lone (b.atR a (.code (.rangeFunc g ps x y)::k)) cs w)=.next (lone (Frame.enter P gf (#[.func (.yield l) #[] #[]]++lb) .normal) (b.atR { a with defers:=mark++a.defers } (.inRangeFunc l::k)::cs) w₁) :=
    step_lone_go (by
      have hev:=Frame.eval_atR b { a with defers:=mark++a.defers } (.inRangeFunc l::k)
      simp only[Frame.atR] at hev
      have hres':Sem.run P (resolve ({ tmps:=a.tmps,defers:=mark++a.defers }:Act).eval { callee:=.value g,args:=#[.const (.func (.yield l) #[] #[])],argTypes:=#[] } 0) w₁=.ok { target:=.fn (.func gf) lb,args:=#[.func (.yield l) #[] #[]] } w₁:=hres
      simp [stepG,stepG.exec,Frame.atR,Sem.runT_eq,he,GStep.bare_after,stepG.apply,hev,Sem.run_bind,hres',hinv,Result.andThen])
  obtain⟨e,w₃,fr,⟨v,j,w₄,rfl,hend,hj⟩,hsteps,hfn,hleave⟩:=hcall (b.atR { a with defers:=mark++a.defers } (.inRangeFunc l::k)::cs)
  have hS:StepsIn (Machine.fenced P (FR ro)) P (lone (Frame.enter P gf (#[.func (.yield l) #[] #[]]++lb) .normal) (b.atR { a with defers:=mark++a.defers } (.inRangeFunc l::k)::cs) w₁) (lone fr (b.atR { a with defers:=mark++a.defers } (.inRangeFunc l::k)::cs) w₃) :=
    show StepsIn (Machine.fenced P Fence.wide) P _ _ from stepsIn_wide.2 hsteps
  have hl:(lone fr (b.atR { a with defers:=mark++a.defers } (.inRangeFunc l::k)::cs) w₃).fenced P (FR ro):=fenced_wide P _
  have hfi:(b.atR { a with defers:=mark++a.defers } (.inRangeFunc l::k)).finish v=b.atR { a with defers:=mark++a.defers } (.endRangeFunc l::k):=by simp [Frame.finish,Frame.atR]
  have s2:step P (lone (b.atR { a with defers:=mark++a.defers } (.endRangeFunc l::k)) cs w₃)=.next (lone (b.atR { a with defers:=mark++a.defers } ((j.map Item.code).toList++k)) cs w₄) :=
    step_lone_go (by simp [stepG,stepG.exec,Frame.atR,Sem.runT_eq,hend,GStep.bare_after])
  have sback:StepsIn (Machine.fenced P (FR ro)) P (lone (b.atR a (.code (.rangeFunc g ps x y)::k)) cs w) (lone (b.atR { a with defers:=mark++a.defers } ((j.map Item.code).toList++k)) cs w₄):=by
    refine .head h0 henter (StepsIn.trans hS (.head hl ?_ (.one (fenced_wide P _) s2)))
    rw[←hfi]; exact step_leave_returned hleave
  cases j with
  | none=>exact⟨.normal,_,w₄,hj,sback⟩
  | some c =>
    obtain⟨e',a'',w₅,hq,harr⟩:=hj b k cs hro hb hr
    exact⟨e',a'',w₅,hq,.of_steps sback harr⟩
def Leaves (P:Program) (fn:Func) (tmps:Array Value) (R:Ending→World→Prop):List Deferred→World→Prop
  | [],w=>∃ v,(results fn tmps).run P w=.ok v w∧R (.returned v) w
  | d::ds,w=>∃ D,d=⟨.collected D,#[]⟩∧w.heap[D]?=some (.deferred (some []))∧Leaves P fn tmps R ds (setW w D (.deferred none))
theorem leaves_go {fn:Func}{tmps:Array Value}{R:Ending→World→Prop}{cs:List Frame}:∀(ds:List Deferred) (w:World) (fr:Frame),fr.mode=.returning→fr.defers=ds→fr.tmps=tmps→P.funcs[fr.fn]?=some fn→fr.kind=.normal→Leaves P fn tmps R ds w →
    ∃ v w' fr',R (.returned v) w'∧Steps P (lone fr cs w) (lone fr' cs w')∧fr'.fn=fr.fn∧fr'.leaving P w' (.returned v)
  | [],w,fr,hm,hd,ht,hf,hk,h=>by
    obtain⟨v,h1,h2⟩:=h
    exact⟨v,w,fr,h2,.refl P _,rfl,hm,hd,hk,fn,hf,by rw[ht]; exact h1⟩
  | d::ds,w,fr,hm,hd,ht,hf,hk,h=>by
    obtain⟨D,rfl,h1,h2⟩:=h
    have hs:step P (lone fr cs w)=.next (lone { fr with defers:=ds } cs (setW w D (.deferred none))) :=
      step_lone_go (by simp [stepG,unwind,hm,hd,Sem.runT_eq,take_run h1,GStep.bare_after])
    obtain⟨v,w',fr',q1,q2,q3,q4⟩:=leaves_go ds _ { fr with defers:=ds } hm rfl ht hf hk h2
    exact⟨v,w',fr',q1,.head hs q2,q3,q4⟩
theorem calls_leaving {f:FuncId}{fn:Func}{c:Code}{args:Array Value}{R:Ending→World→Prop}(hf:P.funcs[f]?=some fn) (hb:fn.body=some c)
    (h:c.wpIn (FR none) 0 P (fun e a w=>(e=.normal∨e=.ret)∧Leaves P fn a.tmps R a.defers w) { tmps:=args++Array.replicate (fn.ntmps - args.size) undef,defers:=[] } w):Calls P f args w R:=by
  intro cs
  let b:Frame:={ (default:Frame) with fn:=f,kind:=.normal,roundOf:=none }
  have henter:Frame.enter P f args .normal=b.atR { tmps:=args++Array.replicate (fn.ntmps - args.size) undef,defers:=[] } [.code c]:=by simp [Frame.enter,Frame.atR,hf,hb,b]
  obtain⟨e,a',w',⟨he,hq⟩,harr⟩:=h b [] cs rfl trivial (fun d hd=>by cases hd)
  rw[←henter] at harr
  rcases he with rfl | rfl
  · obtain⟨v,w2,fr',q1,q2,q3,q4⟩:=leaves_go (cs:=cs) a'.defers w' { b.atR a' [] with mode:=.returning } rfl rfl rfl hf rfl hq
    exact⟨.returned v,w2,fr',q1,(StepsIn.steps harr).trans (.head (stepR_end rfl) q2),q3,q4⟩
  · obtain⟨todo,hs⟩:=harr.1 rfl
    obtain⟨v,w2,fr',q1,q2,q3,q4⟩:=leaves_go (cs:=cs) a'.defers w' { b.atR a' todo with mode:=.returning } rfl rfl rfl hf rfl hq
    exact⟨.returned v,w2,fr',q1,(StepsIn.steps hs).trans q2,q3,q4⟩
end
end
end Go.K
