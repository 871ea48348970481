/- AES over open bytes: the program's. No condition. AES over open bytes: the reference's. No condition. -/
import Derived.Test.YtfpmealbbibhpaaGreatDoorKL0
import Derived.Test.YtfpmealbbibhpaaGreatDoorMT0
set_option linter.unusedVariables false
set_option linter.unusedSimpArgs false
namespace Go.K
open Go.Ab Go.RowKit Go.Y Go.Proofs
noncomputable section
attribute [local irreducible] krun callR
def C.sub (n:Nat):Nat:=pkr .u8 sbN n
def C.mul (a n:Nat):Nat:=pkr .u8 mtN (256 * a + n)
def C.x8 (a b:Nat):Nat:=(a ^^^ b) % 256
def C.fx (x:Nat→Nat) (m:Nat):Nat:=@Nat.rec (fun _=>Nat) (x (nat_lit 0)) (fun p _=>x (Nat.succ p)) m
theorem fx_eq (x:Nat→Nat) (m:Nat):C.fx x m=x m:=by cases m<;>rfl
def C.rot (x:Nat→Nat) (i:Nat):Nat:=C.sub (C.fx x (4 * ((i / 4 + i % 4) % 4) + i % 4))
def C.mix (x:Nat→Nat) (i:Nat):Nat :=
  C.x8 (C.x8 (C.x8 (C.x8 0 (C.mul 2 (C.fx x (4 * (i / 4) + (i % 4 + 0) % 4)))) (C.mul 3 (C.fx x (4 * (i / 4) + (i % 4 + 1) % 4)))) (C.mul 1 (C.fx x (4 * (i / 4) + (i % 4 + 2) % 4)))) (C.mul 1 (C.fx x (4 * (i / 4) + (i % 4 + 3) % 4)))
def C.rnd (f g:Nat→Nat):Nat→Nat→Nat
  | 0,i=>C.x8 (f i) (g i)
  | k + 1,i=>C.x8 (C.mix (C.rot (C.rnd f g k)) i) (g (16 * (k + 1) + i))
def C.enc (f g:Nat→Nat) (i:Nat):Nat:=C.x8 (C.rot (C.rnd f g 9) i) (g (160 + i))
def trN (f:Nat→Nat):Nat→KV
  | 0=>.te
  | n + 1=>kset (.int .u8 (.ofNat (f n))) (enc n) (trN f n)
def by16 (f:Nat→Nat):KV:=.ar 16 (.int .u8 (.ofNat 0)) (trN f 16)
def schT (g:Nat→Nat):Nat→KV
  | 0=>.te
  | n + 1=>kset (by16 fun j=>g (16 * n + j)) (enc n) (schT g n)
def schO (g:Nat→Nat):KV:=.ar 11 (.ar 16 (.int .u8 (.ofNat 0)) .te) (schT g 11)
def sSubO:KSpec:=fun l K=>la1 l fun x=>onInt (fun k a=>chk (ikEq k .u8) 400 (@Int.rec (fun _=>Prop) (fun n=>n < 256∧K (.int .u8 (.ofNat (C.sub n)))) (fun _=>BadN 401) a)) (BadN 402) x
def sMulO:KSpec:=fun l K=>lb2 l fun x y=>onInt (fun k a=>chk (ikEq k .u8) 400 (@Int.rec (fun _=>Prop) (fun m=>onInt (fun k a=>chk (ikEq k .u8) 400 (@Int.rec (fun _=>Prop) (fun n=>chk (Nat.blt m 4) 404 (n < 256∧K (.int .u8 (.ofNat (C.mul m n))))) (fun _=>BadN 401) a)) (BadN 402) y) (fun _=>BadN 401) a)) (BadN 402) x
def C.con (h:Nat→Nat):Nat→Nat→Prop→Prop
  | 0,_,X=>X
  | n + 1,t,X=>h t < 256∧C.con h n (t + 1) X
theorem con_s {h:Nat→Nat}{X:Prop}(hh:∀ t,h t < 256) (hx:X):∀ n t,C.con h n t X
  | 0,_=>hx
  | n + 1,t=>⟨hh t,con_s hh hx n (t + 1)⟩
def C.fin (f g:Nat→Nat) (X:Prop):Nat→Prop
  | 0=>C.con (fun i=>C.fx (C.rnd f g 9) i) 16 0 X
  | n + 1=>C.con (fun i=>C.fx (C.rnd f g (8 - n)) i) 16 0 (C.con (fun t=>C.fx (C.rot (C.rnd f g (8 - n))) (4 * (t / 16) + (t / 4 % 4 + t % 4) % 4)) 64 0 (C.fin f g X n))
def ES:KEnv:=EO0.tab [(314,sSubO),(329,sMulO)]
def run302 (f g:Nat→Nat) (v:KV):Prop:=@callR gO ES (@krun gO ES 200) 0 302 [schO g,by16 f] .e 0 0 fun r _ _ _=>r=v
set_option maxRecDepth 100000
theorem run302_eq (f g:Nat→Nat) (v:KV):run302 f g v=C.fin f g (by16 (C.enc f g)=v) 9:=by kernel_rfl
theorem x8_lt (a b:Nat):C.x8 a b < 256:=Nat.mod_lt _ (by decide)
theorem sub_lt (n:Nat):C.sub n < 256:=pkr_lt .u8 _ _
theorem rnd_lt (f g:Nat→Nat):∀ k i,C.rnd f g k i < 256
  | 0,i=>x8_lt _ _
  | k + 1,i=>x8_lt _ _
theorem fin_s {f g:Nat→Nat}{X:Prop}(hx:X):∀ n,C.fin f g X n
  | 0=>con_s (fun t=>by rw[fx_eq]; exact rnd_lt _ _ _ _) hx _ _
  | n + 1=>con_s (fun t=>by rw[fx_eq]; exact rnd_lt _ _ _ _) (con_s (fun t=>by rw[fx_eq]; exact sub_lt _) (fin_s hx n) _ _) _ _
theorem run302_s (f g:Nat→Nat):run302 f g (by16 (C.enc f g)):=by
  rw[run302_eq]
  exact fin_s rfl 9
end
end Go.K
namespace Go.K
open Go.Ab Go.RowKit Go.Y Go.Proofs
noncomputable section
attribute [local irreducible] krun callR
def C.dbl (n:Nat):Nat:=@Bool.rec (fun _=>Nat) (Nat.mod (Nat.mul n 2) 256) (Nat.mod (Nat.xor (Nat.mod (Nat.mul n 2) 256) 27) 256) (Nat.blt 127 n)
def C.mx0 (a b c d:Nat):Nat:=C.x8 (C.x8 (C.x8 (C.x8 (C.dbl a) (C.dbl b)) b) c) d
def C.mx1 (a b c d:Nat):Nat:=C.x8 (C.x8 (C.x8 (C.x8 a (C.dbl b)) (C.dbl c)) c) d
def C.mx2 (a b c d:Nat):Nat:=C.x8 (C.x8 (C.x8 (C.x8 a b) (C.dbl c)) (C.dbl d)) d
def C.mx3 (a b c d:Nat):Nat:=C.x8 (C.x8 (C.x8 (C.x8 (C.dbl a) a) b) c) (C.dbl d)
def C.mxR (r:Nat) (a b c d:Nat):Nat:=@Nat.rec (fun _=>Nat) (C.mx0 a b c d) (fun r _=>@Nat.rec (fun _=>Nat) (C.mx1 a b c d) (fun r _=>@Nat.rec (fun _=>Nat) (C.mx2 a b c d) (fun _ _=>C.mx3 a b c d) r) r) r
def C.mixR (x:Nat→Nat) (i:Nat):Nat:=C.mxR (i % 4) (C.fx x (4 * (i / 4))) (C.fx x (4 * (i / 4) + 1)) (C.fx x (4 * (i / 4) + 2)) (C.fx x (4 * (i / 4) + 3))
def C.rotR (x:Nat→Nat) (i:Nat):Nat:=pkr .u8 sbN (C.fx x (4 * ((i / 4 + i % 4) % 4) + i % 4))
def C.rndR (f g:Nat→Nat):Nat→Nat→Nat
  | 0,i=>C.x8 (f i) (g i)
  | k + 1,i=>C.x8 (C.mixR (C.rotR (C.rndR f g k)) i) (g (16 * (k + 1) + i))
def C.encR (f g:Nat→Nat) (i:Nat):Nat:=C.x8 (C.rotR (C.rndR f g 9) i) (g (160 + i))
def by4 (f:Nat→Nat):KV:=.ar 4 (.int .u8 (.ofNat 0)) (trN f 4)
def wdT (g:Nat→Nat):Nat→KV
  | 0=>.te
  | n + 1=>kset (by4 fun j=>g (4 * n + j)) (enc n) (wdT g n)
def wdO (g:Nat→Nat):KV:=.ar 44 (.ar 4 (.int .u8 (.ofNat 0)) .te) (wdT g 44)
def sDblO:KSpec:=fun l K=>la1 l fun x=>onInt (fun k a=>chk (ikEq k .u8) 400 (@Int.rec (fun _=>Prop) (fun n=>n < 256∧K (.int .u8 (.ofNat (C.dbl n)))) (fun _=>BadN 401) a)) (BadN 402) x
def C.ix (x:Nat) (X:Prop):Prop:=cnd (ixB (.ofNat x) 256) X
def C.ixs (x:Nat→Nat):Nat→Prop→Prop
  | 0,X=>X
  | n + 1,X=>C.ix (C.fx x (4 * (((15 - n) % 4 + (15 - n) / 4) % 4) + (15 - n) / 4)) (C.ixs x n X)
def C.dw (t:Nat):Nat:=[0,1,1,2,2,3,0,3].getD t 0
def C.rds (f g:Nat→Nat) (X:Prop):Nat→Prop
  | 0=>C.ixs (C.rndR f g 9) 16 X
  | n + 1=>C.ixs (C.rndR f g (8 - n)) 16 (C.con (fun t=>C.fx (C.rotR (C.rndR f g (8 - n))) (4 * (t / 8) + C.dw (t % 8))) 32 0 (C.rds f g X n))
def ESR:KEnv:=EO0.tab [(325,sDblO),(324,kcon [] (.pk .u8 256 sbN))]
def run312 (f g:Nat→Nat) (v:KV):Prop:=@callR gO ESR (@krun gO ESR 200) 0 312 [wdO g,by16 f] .e 0 0 fun r _ _ _=>r=v
set_option maxRecDepth 100000
theorem run312_eq (f g:Nat→Nat) (v:KV):run312 f g v=C.rds f g (by16 (C.encR f g)=v) 9:=by kernel_rfl
end
end Go.K
