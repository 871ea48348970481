/- errors.As and errors.Is in the run of the seat. No condition. Fresh volumes of at most 60 blocks: what is handed back. No condition. Values of the runs. No condition. An environment. No condition. -/
import Derived.Test.YtfpmealbbibhpaaGreatDoorAS1
import Derived.Test.YtfpmealbbibhpaaGreatDoorLC1
import Derived.Test.YtfpmealbbibhpaaGreatDoorK17
namespace Go.K
open Go.Ab Go.RowKit Go.Y Go.Proofs
noncomputable section
theorem kgErrT:(@Gl.G (@instGl kgL) 2)=vErrT:=rfl
theorem as209_s:@AsOk kgL Tryz.prog 209 247 345:=@as209 kgL kgErrT
theorem kcs210:@KCS kgL Tryz.prog 210 (sIs 2147483896 2147483648 9117368320):=by
  have h:=@isOk_of kgL Tryz.prog gnL 210 247 503 9117368320 ⟨_,Tryz.func210,by kernel_rfl,by kernel_rfl⟩ (by decide) (by decide) (by decide) (by decide)
    (fun e a w=>(Go.AS.is_refN e a w).mono (by rintro ev w' ⟨rfl,rfl⟩; exact⟨rfl,(Below.refl w.heap.size w).alloc (Nat.le_refl _) _⟩))
    (fun e a w=>(Go.AS.is_refH e a w).mono (by rintro ev w' ⟨rfl,rfl⟩; exact⟨rfl,(Below.refl w.heap.size w).alloc (Nat.le_refl _) _⟩))
  exact h
def E0s:KEnv:=⟨E0.P,E0.ct,fun f=>@Bool.rec (fun _=>Nat) (E0.md f) 3 (Nat.beq f 117),E0.km,E0.ol,E0.ex,E0.cb,fun f=>@Bool.rec (fun _=>Option (Nat×Nat)) none (some (247,345)) (Nat.beq f 209)⟩
theorem ok0s:KOk E0s:=⟨ok0.fns,ok0.ct,ok0.gn,ok0.mixed,ok0.ex,ok0.cb,fun f T PT h=>by
  have h:@Bool.rec (fun _=>Option (Nat×Nat)) none (some (247,345)) (Nat.beq f 209)=some (T,PT):=h
  cases hf:Nat.beq f 209 with
  | false=>rw[hf] at h; cases h
  | true =>
    rw[hf] at h
    cases h
    obtain rfl:=Nat.eq_of_beq_eq_true hf
    exact as209_s⟩
end
end Go.K
set_option linter.unusedVariables false
set_option linter.unusedSimpArgs false
namespace Go.K
open Go.Ab Go.RowKit Go.Y Go.Proofs
noncomputable section
def treeT (x:KV) (n:Nat):KV:=@Nat.rec (fun _=>KV) .te (fun i t=>kset x (enc i) t) n
def bsel {α:Type}(b:Bool) (x y:α):α:=@Bool.rec (fun _=>α) y x b
def secF (n:Nat):Nat:=2 * (n + (n + 3) / 4 + bsel (Nat.ble n 4) 0 (((n + 3) / 4 + 3) / 4 + bsel (Nat.ble n 16) 0 1))
def hgtF (n:Nat):Nat:=bsel (Nat.ble n 4) 0 (bsel (Nat.ble n 16) 1 2)
def dgF (h:Nat):Nat:=@Nat.rec (fun _=>Nat) 49335936114469730489519566754954389822356494958623753279784912804745734766010 (fun h _=>@Nat.rec (fun _=>Nat) 57061694406932542387411442672345176105610110515719100098405207664887830735945 (fun h _=>115399759593875984660863525549135131536212492063992582793881239684100504995277) h) h
def ckF (n:Nat):Nat:=(secF n + 63) / 64
def lenF (h:Nat):Nat:=@Nat.rec (fun _=>Nat) 185 (fun _ _=>137) h
def chE:KV:=.ref true (.arr 64 .sc) (.ar 64 .nilp .te)
def verF (h:Nat):KV:=.ref true (.cons .sc (.cons .sc (.cons .sc (.cons .sc .nl)))) (.cons (.bool true) (.cons (.ro true false .sc 0 (lenF h) (.pk .u8 (lenF h) h)) (.cons (.int .i64 (.ofNat 1)) (.cons .nilp .nl))))
def chF (h q:Nat):KV:=.ref true (.arr 64 .sc) (.ar 64 .nilp (kset (verF h) (enc (q % 64)) .te))
def arF (n:Nat):KV:=.ar (ckF n) .nilp (kset (chF (hgtF n) (secF n - 2)) (enc ((secF n - 2) / 64)) (treeT chE (ckF n)))
def dskF (n:Nat):KV:=.cons (.int .i64 (.ofNat (secF n))) (.cons (.int .i64 (.ofNat 1)) (.cons (.ro true true .sc 0 (ckF n) (arF n)) .nl))
def celF (n:Nat):KV:=.cons (.pk .u8 32 (dgF (hgtF n))) (.cons (.int .u64 (.ofNat 0)) (.cons (.int .u64 (.ofNat 0)) .nl))
def frF (n:Nat):KV:=.tup (.cons (dskF n) (.cons (celF n) (.cons (.int .i64 (.ofNat 0)) .nl)))
def q20 (E:KEnv) (n:Nat):Prop:=callR E (krun E 1000) 0 20 [.int .i64 (.ofNat n)] .e 0 0 fun r zm _ _=>tK (fzB zm 60 r (frF n))
def AllR (P:Nat→Prop) (a m:Nat):Prop:=@Nat.rec (fun _=>Prop) True (fun i ih=>P (a + i)∧ih) m
theorem allR_true (a:Nat):∀ m,AllR (fun _=>True) a m
  | 0=>trivial
  | m + 1=>⟨trivial,allR_true a m⟩
theorem allR_of {P:Nat→Prop}{a:Nat}:∀ {m:Nat},AllR P a m→∀ {n:Nat},a≤n→n < a + m→P n
  | 0,_,n,h1,h2=>absurd h1 (by omega)
  | m + 1,h,n,h1,h2=>by
    by_cases he:n=a + m
    · subst he; exact (show P (a + m)∧AllR P a m from h).1
    · exact allR_of (show P (a + m)∧AllR P a m from h).2 h1 (by omega)
end
end Go.K
set_option maxRecDepth 10000
namespace Go.K
open Go.Ab Go.RowKit Go.Y Go.Proofs
noncomputable section
def RnM (E:KEnv) (f:Nat) (a:List KV) (r:KV):Prop:=callR E (krun E 1000000) 0 f a .e 0 0 (fun x zm _ _=>tK (fzB zm 60 x r))
theorem kconR {E:KEnv}{f:Nat}{a:List KV}{r:KV}(hE:KOk E) (h:RnM E f a r):KCS E.P f (kcon a r):=kconF_s hE h
def u0:KV:=(.int .u8 (.ofNat 0))
def u1:KV:=(.int .u32 (.ofNat 0))
def u2:KV:=(.cons u0 (.cons (.cons u1 (.cons (.int .u64 (.ofNat 0)) .nl)) (.cons (.pk .u8 32 0) .nl)))
def u3:KV:=(.cons u0 (.cons (.pk .u8 32 0) .nl))
def u4:KV:=(.cons (.int .i64 (.ofNat 0)) .nl)
def u5:KV:=(.tup (.cons (.pk .u8 32 49335936114469730489519566754954389822356494958623753279784912804745734766010) u4))
def u6:KV:=(.cons (.ar 4 u2 .te) (.cons (.ar 4 u3 .te) .nl))
def u7:KV:=(.int .u8 (.ofNat 1))
def u8:KV:=(.cons u1 (.cons (.ar 4 u2 .te) (.cons (.ar 4 u3 (.tn u3 (.tn u3 .te .te .te .te) (.tn u3 .te .te .te .te) (.tn u3 .te .te .te .te) .te)) .nl)))
def u9:KV:=(.tup (.cons (.pk .u8 32 57061694406932542387411442672345176105610110515719100098405207664887830735945) u4))
def u10:KV:=(.tup (.cons (.pk .u8 32 115399759593875984660863525549135131536212492063992582793881239684100504995277) u4))
end
end Go.K
set_option maxRecDepth 10000
namespace Go.K
open Go.Ab Go.RowKit Go.Y Go.Proofs
noncomputable section
def ESW0a:KEnv:=E0s.tab [(273,sCompS)]
theorem okESW0a:KOk ESW0a:=ok0s.tab ⟨kcs273,trivial⟩
def ESW0:KEnv:=ESW0a.olo (fun f=>false)
theorem okESW0:KOk ESW0:=okESW0a.olo _
end
end Go.K
