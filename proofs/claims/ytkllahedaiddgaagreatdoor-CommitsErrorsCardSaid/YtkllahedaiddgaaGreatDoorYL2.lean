/- The reference's compression: the contract. No condition. -/
import Derived.Test.YtkllahedaiddgaaGreatDoorYL1
import Derived.Test.YtkllahedaiddgaaGreatDoorY10
set_option linter.unusedSimpArgs false
set_option linter.unusedVariables false
namespace Go.Y
open Go.Ab Go.RowKit Go.Proofs
noncomputable def zfS (f:FuncId):Func:=match Tryz.prog.funcs[f]? with
 | some fn=>fn
 | none=>default
noncomputable def Zj (f:FuncId):Code:=match (zfS f).body with
 | some c=>c
 | none=>.skip
noncomputable def zjN (f:FuncId):List ResultVar:=(zfS f).results.toList
noncomputable def vO (ct:qZ) (u:Bool) (c:Code) (tm:Tm) (zm:Zm) (nx:Nat) (K:K3):Prop:=run Tryz.prog GL ct u 1000000 c tm zm nx K
def wV (k:IntKind) (a:Nat):V:=.int k (Int.ofNat a)
end Go.Y
namespace Go.Y.S
open Go.Ab
def m32:Nat:=4294967296
def m64:Nat:=18446744073709551616
def add32 (a b:Nat):Nat:=(a + b) % 4294967296
def xor32 (a b:Nat):Nat:=(a ^^^ b) % 4294967296
def and32 (a b:Nat):Nat:=(a &&& b) % 4294967296
def or32 (a b:Nat):Nat:=(a ||| b) % 4294967296
def not32 (a:Nat):Nat:=(4294967295 ^^^ a) % 4294967296
def ztx (a k:Nat):Nat:=(a * k) % 4294967296
def Wx (a k:Nat):Nat:=a / k
def or64 (a b:Nat):Nat:=(a ||| b) % 18446744073709551616
def shl64 (a k:Nat):Nat:=(a * k) % 18446744073709551616
def to64 (a:Nat):Nat:=a % 18446744073709551616
def to32 (a:Nat):Nat:=a % 4294967296
def rot (a l r:Nat):Nat:=or32 (ztx a l) (Wx a r)
def load32 (b:Nat→Nat) (t:Nat):Nat :=
 to32 (or64 (shl64 (or64 (shl64 (or64 (shl64 (or64 0 (to64 (b (4 * t)))) 256) (to64 (b (4 * t + 1)))) 256) (to64 (b (4 * t + 2)))) 256) (to64 (b (4 * t + 3))))
def sg0 (x:Nat):Nat:=xor32 (xor32 (rot x 33554432 128) (rot x 16384 262144)) (Wx x 8)
def sg1 (y:Nat):Nat:=xor32 (xor32 (rot y 32768 131072) (rot y 8192 524288)) (Wx y 1024)
def nextW (w15 w2 w7 w16:Nat):Nat:=add32 (add32 (add32 (sg1 w2) w7) (sg0 w15)) w16
section
variable (ld:Nat→Nat) (nw:Nat→Nat→Nat→Nat→Nat)
def gS:Nat→Nat→Nat
 | 0=>fun _=>0
 | t + 1=>fun j=>bif j==t then (bif decide (t < 16) then ld t else nw (gS t (t - 15)) (gS t (t - 2)) (gS t (t - 7)) (gS t (t - 16))) else gS t j
def gL:Nat→List Nat
 | 0=>[]
 | t + 1=>(bif decide (t < 16) then ld t else nw ((gL t).getD 14 0) ((gL t).getD 1 0) ((gL t).getD 6 0) ((gL t).getD 15 0))::gL t
theorem gS_gL:∀ t j,j < t→gS ld nw t j=(gL ld nw t).getD (t - 1 - j) 0
 | 0,j,h=>by omega
 | t + 1,j,h=>by
  have ih:=gS_gL t
  by_cases hj:j=t
  ·subst hj
   simp only[gS,beq_self_eq_true,cond_true]
   rw[show j + 1 - 1 - j=0 by omega]
   simp only[gL,List.getD_cons_zero]
   by_cases h16:j < 16
   ·rw[show decide (j < 16)=true by simpa using h16,cond_true,cond_true]
   ·rw[show decide (j < 16)=false by simpa using h16,cond_false,cond_false,ih (j - 15) (by omega),ih (j - 2) (by omega),ih (j - 7) (by omega),ih (j - 16) (by omega)]
    rw[show j - 1 - (j - 15)=14 by omega,show j - 1 - (j - 2)=1 by omega,show j - 1 - (j - 7)=6 by omega,show j - 1 - (j - 16)=15 by omega]
  ·simp only[gS]
   rw[show (j==t)=false by simpa using hj,cond_false,ih j (by omega)]
   simp only[gL]
   rw[show t + 1 - 1 - j=(t - 1 - j) + 1 by omega,List.getD_cons_succ]
end
def wS (b:Nat→Nat):Nat→Nat→Nat:=gS (load32 b) nextW
def sched (b:Nat→Nat) (j:Nat):Nat:=(gL (load32 b) nextW 64).getD (63 - j) 0
theorem wS_sched (b:Nat→Nat) (j:Nat) (h:j < 64):wS b 64 j=sched b j:=gS_gL _ _ 64 j h
theorem zrM (b:Nat→Nat):wS b 0=fun _=>0:=rfl
theorem wS_lo (b:Nat→Nat) (t:Nat) (h:t < 16):wS b (t + 1)=fun j=>bif j==t then load32 b t else wS b t j:=by
 funext j
 simp only[wS,gS]
 rw[show decide (t < 16)=true by simpa using h,cond_true]
theorem wS_hi (b:Nat→Nat) (t:Nat) (h:16≤t):wS b (t + 1)=fun j=>bif j==t then nextW (wS b t (t - 15)) (wS b t (t - 2)) (wS b t (t - 7)) (wS b t (t - 16)) else wS b t j:=by
 funext j
 simp only[wS,gS]
 rw[show decide (t < 16)=false by simpa using h,cond_false]
structure St where
 a:Nat
 b:Nat
 c:Nat
 d:Nat
 e:Nat
 f:Nat
 g:Nat
 h:Nat
def big1 (e:Nat):Nat:=xor32 (xor32 (rot e 67108864 64) (rot e 2097152 2048)) (rot e 128 33554432)
def big0 (a:Nat):Nat:=xor32 (xor32 (rot a 1073741824 4) (rot a 524288 8192)) (rot a 1024 4194304)
def ch (e f g:Nat):Nat:=xor32 (and32 e f) (and32 (not32 e) g)
def maj (a b c:Nat):Nat:=xor32 (xor32 (and32 a b) (and32 a c)) (and32 b c)
def t1 (s:St) (k w:Nat):Nat:=add32 (add32 (add32 (add32 s.h (big1 s.e)) (ch s.e s.f s.g)) k) w
def t2 (s:St):Nat:=add32 (big0 s.a) (maj s.a s.b s.c)
def rnd (k w:Nat) (s:St):St:=⟨add32 (t1 s k w) (t2 s),s.a,s.b,s.c,add32 s.d (t1 s k w),s.e,s.f,s.g⟩
def rounds (w:Nat→Nat) (s:St):Nat→St
 | 0=>s
 | t + 1=>rnd (x9.getD t 0) (w t) (rounds w s t)
def St.get (s:St) (j:Nat):Nat:=[s.a,s.b,s.c,s.d,s.e,s.f,s.g,s.h].getD j 0
def stOf (h:Nat→Nat):St:=⟨h 0,h 1,h 2,h 3,h 4,h 5,h 6,h 7⟩
def comp (h b:Nat→Nat) (j:Nat):Nat:=add32 (h j) ((rounds (sched b) (stOf h) 64).get j)
end Go.Y.S
namespace Go.Y.S
def accS (h x:Nat→Nat):Nat→Nat→Nat
 | 0=>h
 | t + 1=>fun j=>bif j==t then add32 (accS h x t t) (x t) else accS h x t j
theorem ze1 (h x:Nat→Nat):∀ t j,t≤j→accS h x t j=h j
 | 0,j,_=>rfl
 | t + 1,j,hj=>by
  simp only[accS]
  rw[show (j==t)=false by simp; omega,cond_false,ze1 h x t j (by omega)]
theorem accS_lt (h x:Nat→Nat):∀ t j,j < t→accS h x t j=add32 (h j) (x j)
 | 0,j,hj=>by omega
 | t + 1,j,hj=>by
  simp only[accS]
  by_cases e:j=t
  ·subst e
   rw[show (j==j)=true by simp,cond_true,ze1 h x j j (Nat.le_refl _)]
  ·rw[show (j==t)=false by simpa using e,cond_false,accS_lt h x t j (by omega)]
end Go.Y.S
namespace Go.Y.R
open Go.Y.S
def add64 (a b:Nat):Nat:=(a + b) % 18446744073709551616
def rot (a l r:Nat):Nat:=or32 (Wx a r) (ztx a l)
def load32 (b:Nat→Nat) (t:Nat):Nat :=
 to32 (add64 (shl64 (add64 (shl64 (add64 (shl64 (add64 (shl64 0 256) (to64 (b (4 * t)))) 256) (to64 (b (4 * t + 1)))) 256) (to64 (b (4 * t + 2)))) 256) (to64 (b (4 * t + 3))))
def sg0 (x:Nat):Nat:=xor32 (xor32 (rot x 33554432 128) (rot x 16384 262144)) (Wx x 8)
def sg1 (y:Nat):Nat:=xor32 (xor32 (rot y 32768 131072) (rot y 8192 524288)) (Wx y 1024)
def nextW (w15 w2 w7 w16:Nat):Nat:=add32 (add32 (add32 w16 w7) (sg0 w15)) (sg1 w2)
def wS (b:Nat→Nat):Nat→Nat→Nat:=gS (load32 b) nextW
def sched (b:Nat→Nat) (j:Nat):Nat:=(gL (load32 b) nextW 64).getD (63 - j) 0
theorem wS_sched (b:Nat→Nat) (j:Nat) (h:j < 64):wS b 64 j=sched b j:=gS_gL _ _ 64 j h
theorem zrM (b:Nat→Nat):wS b 0=fun _=>0:=rfl
theorem wS_lo (b:Nat→Nat) (t:Nat) (h:t < 16):wS b (t + 1)=fun j=>bif j==t then load32 b t else wS b t j:=by
 funext j
 simp only[wS,gS]
 rw[show decide (t < 16)=true by simpa using h,cond_true]
theorem wS_hi (b:Nat→Nat) (t:Nat) (h:16≤t):wS b (t + 1)=fun j=>bif j==t then nextW (wS b t (t - 15)) (wS b t (t - 2)) (wS b t (t - 7)) (wS b t (t - 16)) else wS b t j:=by
 funext j
 simp only[wS,gS]
 rw[show decide (t < 16)=false by simpa using h,cond_false]
def big1 (e:Nat):Nat:=xor32 (xor32 (rot e 67108864 64) (rot e 2097152 2048)) (rot e 128 33554432)
def big0 (a:Nat):Nat:=xor32 (xor32 (rot a 1073741824 4) (rot a 524288 8192)) (rot a 1024 4194304)
def ch (e f g:Nat):Nat:=or32 (and32 e f) (and32 (not32 e) g)
def maj (a b c:Nat):Nat:=or32 (or32 (and32 a b) (and32 a c)) (and32 b c)
def t1 (s:St) (k w:Nat):Nat:=add32 (add32 (add32 (add32 s.h (big1 s.e)) (ch s.e s.f s.g)) k) w
def t2 (s:St):Nat:=add32 (big0 s.a) (maj s.a s.b s.c)
def rnd (k w:Nat) (s:St):St:=⟨add32 (t1 s k w) (t2 s),s.a,s.b,s.c,add32 s.d (t1 s k w),s.e,s.f,s.g⟩
def rounds (w:Nat→Nat) (s:St):Nat→St
 | 0=>s
 | t + 1=>rnd (x9.getD t 0) (w t) (rounds w s t)
def comp (h b:Nat→Nat) (j:Nat):Nat:=add32 (h j) ((rounds (sched b) (stOf h) 64).get j)
end Go.Y.R
set_option maxRecDepth 100000
namespace Go.Y
open Go.Ab Go.RowKit Go.Proofs
noncomputable section
noncomputable def ct0:qZ:=fun _=>none
theorem zwS:CTG Tryz.prog ct0:=fun f c h=>by cases h
theorem QG:Env Tryz.prog ct0:=zCh zwS
def zBU (P:Nat→Prop):Nat→Prop
 | 0=>True
 | n + 1=>zBU P n∧P n
theorem ye {P:Nat→Prop}:∀ {n:Nat},zBU P n→∀ t,t < n→P t
 | 0,_,t,h=>by omega
 | n + 1,h,t,ht=>by
  rcases Nat.lt_or_ge t n with h1 | h1
  ·exact ye h.1 t h1
  ·obtain rfl:t=n:=by omega
   exact h.2
def isW (k:IntKind) (v:V):Bool:=match v with
 | .int k' (.ofNat _)=>xq k' k
 | _=>false
def xp (v:V):Nat:=match v with
 | .int _ (.ofNat n)=>n
 | _=>0
theorem JT {k:IntKind}{v:V}(h:isW k v=true):v=wV k (xp v):=by
 unfold isW at h
 split at h
 ·obtain rfl:=zJ h; rfl
 ·cases h
def v6 (k:IntKind) (n:Nat) (f:Nat→V):Bool:=(List.range n).all fun i=>isW k (f i)
def zD (k:IntKind) (n:Nat) (f:Nat→Nat):V:=.arr n fun i=>wV k (f i)
theorem zqB {k:IntKind}{n:Nat}{f:Nat→V}(h:v6 k n f=true):(V.arr n f).le (zD k n fun i=>xp (f i)):=by
 refine⟨rfl,fun i hi=>?_⟩
 have:=JT (List.all_eq_true.1 h i (List.mem_range.2 hi))
 show (f i).le (wV k (xp (f i)))
 rw[←this]; exact V.le_refl _
theorem z7 (m:Nat) (k:IntKind) (n:Nat) (f:Nat→Nat):(zD k n f).bel m:=fun i _=>trivial
theorem zku {m:Nat}{k:IntKind}{n:Nat}{f:Nat→V}(h:v6 k n f=true):(V.arr n f).bel m:=fun i hi=>by
 rw[JT (List.all_eq_true.1 h i (List.mem_range.2 hi))]; trivial
theorem qb {k:IntKind}{n:Nat}{f g:Nat→Nat}(h:∀ i,i < n→f i=g i):(zD k n f).le (zD k n g):=⟨rfl,fun i hi=>by show (wV k (f i)).le (wV k (g i)); rw[h i hi]; exact V.le_refl _⟩
theorem Xb {k:IntKind}{n t a:Nat}{f:Nat→Nat}:(V.set [.idx t] (wV k a) (zD k n f)).le (zD k n fun j=>bif j==t then a else f j):=by
 refine⟨rfl,fun i hi=>?_⟩
 show (V.ite (i==t) (wV k a) (wV k (f i))).le (wV k (bif i==t then a else f i))
 rw[V.ite_eq]
 cases i==t<;>exact V.le_refl _
theorem jM {m:Nat}{k:IntKind}{n t a:Nat}{f:Nat→Nat}:(V.set [.idx t] (wV k a) (zD k n f)).bel m:=by
 intro i hi
 show (V.ite (i==t) (wV k a) (wV k (f i))).bel m
 rw[V.ite_eq]
 cases i==t<;>trivial
def zfW:Code:=Zj 298
def ztb:Code:=qG (qG (xi (v7 (xi zfW))))
def ztc:Code:=qG (qG (xi (v7 (xi (xi zfW)))))
def ztd (t:Nat):Tm:=mkT [1,2,9] [.ptr 0 [] (.arr 64 .sc),.ptr 1 [] (.arr 64 .sc),wV .i64 t]
def zte (t:Nat):Tm:=mkT [1,2,4] [.ptr 0 [] (.arr 64 .sc),.ptr 1 [] (.arr 64 .sc),wV .i64 t]
def zcS (b w:Nat→Nat):Zm:=mkZ [0,1] [⟨.box 374,.arr 64 .sc,zD .u8 64 b⟩,⟨.box 329,.arr 64 .sc,zD .u32 64 w⟩]
def vf (t:Nat):Prop:=∀(b w:Nat→Nat) (Q:Q4),vO ct0 true ztb (ztd t) (zcS b w) 2 (xY [1,2,9] [0,1] Q)=Q .normal [.ptr 0 [] (.arr 64 .sc),.ptr 1 [] (.arr 64 .sc),wV .i64 (t + 1)] [some ⟨.box 374,.arr 64 .sc,zD .u8 64 b⟩,some ⟨.box 329,.arr 64 .sc,V.set [.idx t] (wV .u32 (S.load32 b t)) (zD .u32 64 w)⟩] 2
theorem zqC:vf 0:=fun b w Q=>by kernel_rfl
theorem zqD:vf 1:=fun b w Q=>by kernel_rfl
theorem zqE:vf 2:=fun b w Q=>by kernel_rfl
theorem zqF:vf 3:=fun b w Q=>by kernel_rfl
theorem zqG:vf 4:=fun b w Q=>by kernel_rfl
theorem zqH:vf 5:=fun b w Q=>by kernel_rfl
theorem zqI:vf 6:=fun b w Q=>by kernel_rfl
theorem zqJ:vf 7:=fun b w Q=>by kernel_rfl
theorem zqK:vf 8:=fun b w Q=>by kernel_rfl
theorem zqL:vf 9:=fun b w Q=>by kernel_rfl
theorem zkv:vf 10:=fun b w Q=>by kernel_rfl
theorem zkw:vf 11:=fun b w Q=>by kernel_rfl
theorem zkx:vf 12:=fun b w Q=>by kernel_rfl
theorem zky:vf 13:=fun b w Q=>by kernel_rfl
theorem zkz:vf 14:=fun b w Q=>by kernel_rfl
theorem zkA:vf 15:=fun b w Q=>by kernel_rfl
theorem zBV:∀ t,t < 16→vf t:=by
 intro t h2
 exact ye (P:=vf) (n:=16) (⟨⟨⟨⟨⟨⟨⟨⟨⟨⟨⟨⟨⟨⟨⟨⟨trivial,zqC⟩,zqD⟩,zqE⟩,zqF⟩,zqG⟩,zqH⟩,zqI⟩,zqJ⟩,zqK⟩,zqL⟩,zkv⟩,zkw⟩,zkx⟩,zky⟩,zkz⟩,zkA⟩) t h2
def zz (t:Nat):Prop:=∀(b w:Nat→Nat) (Q:Q4),vO ct0 true ztc (zte t) (zcS b w) 2 (xY [1,2,4] [0,1] Q)=Q .normal [.ptr 0 [] (.arr 64 .sc),.ptr 1 [] (.arr 64 .sc),wV .i64 (t + 1)] [some ⟨.box 374,.arr 64 .sc,zD .u8 64 b⟩,some ⟨.box 329,.arr 64 .sc,V.set [.idx t] (wV .u32 (S.nextW (w (t - 15)) (w (t - 2)) (w (t - 7)) (w (t - 16)))) (zD .u32 64 w)⟩] 2
theorem zkB:zz 16:=fun b w Q=>by kernel_rfl
theorem zkC:zz 17:=fun b w Q=>by kernel_rfl
theorem zkD:zz 18:=fun b w Q=>by kernel_rfl
theorem zkE:zz 19:=fun b w Q=>by kernel_rfl
theorem zkF:zz 20:=fun b w Q=>by kernel_rfl
theorem zkG:zz 21:=fun b w Q=>by kernel_rfl
theorem zkH:zz 22:=fun b w Q=>by kernel_rfl
theorem zkI:zz 23:=fun b w Q=>by kernel_rfl
theorem zkJ:zz 24:=fun b w Q=>by kernel_rfl
theorem zkK:zz 25:=fun b w Q=>by kernel_rfl
theorem zkL:zz 26:=fun b w Q=>by kernel_rfl
theorem zkM:zz 27:=fun b w Q=>by kernel_rfl
theorem zkN:zz 28:=fun b w Q=>by kernel_rfl
theorem zkO:zz 29:=fun b w Q=>by kernel_rfl
theorem zkP:zz 30:=fun b w Q=>by kernel_rfl
theorem zkQ:zz 31:=fun b w Q=>by kernel_rfl
theorem zkR:zz 32:=fun b w Q=>by kernel_rfl
theorem zkS:zz 33:=fun b w Q=>by kernel_rfl
theorem zkT:zz 34:=fun b w Q=>by kernel_rfl
theorem zkU:zz 35:=fun b w Q=>by kernel_rfl
theorem zkV:zz 36:=fun b w Q=>by kernel_rfl
theorem zkW:zz 37:=fun b w Q=>by kernel_rfl
theorem zkX:zz 38:=fun b w Q=>by kernel_rfl
theorem zkY:zz 39:=fun b w Q=>by kernel_rfl
theorem zkZ:zz 40:=fun b w Q=>by kernel_rfl
theorem zk0:zz 41:=fun b w Q=>by kernel_rfl
theorem zk1:zz 42:=fun b w Q=>by kernel_rfl
theorem zk2:zz 43:=fun b w Q=>by kernel_rfl
theorem zk3:zz 44:=fun b w Q=>by kernel_rfl
theorem zk4:zz 45:=fun b w Q=>by kernel_rfl
theorem zk5:zz 46:=fun b w Q=>by kernel_rfl
theorem zk6:zz 47:=fun b w Q=>by kernel_rfl
theorem zk7:zz 48:=fun b w Q=>by kernel_rfl
theorem zk8:zz 49:=fun b w Q=>by kernel_rfl
theorem zk9:zz 50:=fun b w Q=>by kernel_rfl
theorem zla:zz 51:=fun b w Q=>by kernel_rfl
theorem zlb:zz 52:=fun b w Q=>by kernel_rfl
theorem zlc:zz 53:=fun b w Q=>by kernel_rfl
theorem zld:zz 54:=fun b w Q=>by kernel_rfl
theorem zle:zz 55:=fun b w Q=>by kernel_rfl
theorem zlf:zz 56:=fun b w Q=>by kernel_rfl
theorem zlg:zz 57:=fun b w Q=>by kernel_rfl
theorem zlh:zz 58:=fun b w Q=>by kernel_rfl
theorem zli:zz 59:=fun b w Q=>by kernel_rfl
theorem zlj:zz 60:=fun b w Q=>by kernel_rfl
theorem zlk:zz 61:=fun b w Q=>by kernel_rfl
theorem zll:zz 62:=fun b w Q=>by kernel_rfl
theorem zlm:zz 63:=fun b w Q=>by kernel_rfl
theorem zBW:∀ t,16≤t→t < 64→zz t:=by
 intro t h1 h2
 obtain⟨d,rfl⟩:∃ d,t=d + 16:=⟨t - 16,by omega⟩
 exact ye (P:=fun d=>zz (d + 16)) (n:=48) (⟨⟨⟨⟨⟨⟨⟨⟨⟨⟨⟨⟨⟨⟨⟨⟨⟨⟨⟨⟨⟨⟨⟨⟨⟨⟨⟨⟨⟨⟨⟨⟨⟨⟨⟨⟨⟨⟨⟨⟨⟨⟨⟨⟨⟨⟨⟨⟨trivial,zkB⟩,zkC⟩,zkD⟩,zkE⟩,zkF⟩,zkG⟩,zkH⟩,zkI⟩,zkJ⟩,zkK⟩,zkL⟩,zkM⟩,zkN⟩,zkO⟩,zkP⟩,zkQ⟩,zkR⟩,zkS⟩,zkT⟩,zkU⟩,zkV⟩,zkW⟩,zkX⟩,zkY⟩,zkZ⟩,zk0⟩,zk1⟩,zk2⟩,zk3⟩,zk4⟩,zk5⟩,zk6⟩,zk7⟩,zk8⟩,zk9⟩,zla⟩,zlb⟩,zlc⟩,zld⟩,zle⟩,zlf⟩,zlg⟩,zlh⟩,zli⟩,zlj⟩,zlk⟩,zll⟩,zlm⟩) d (by omega)
theorem zfX (b w:Nat→Nat) (Q:Q4):vO ct0 true ztb (ztd 16) (zcS b w) 2 (xY [1,2,9] [0,1] Q)=Q (.exit 0) [.ptr 0 [] (.arr 64 .sc),.ptr 1 [] (.arr 64 .sc),wV .i64 16] [some ⟨.box 374,.arr 64 .sc,zD .u8 64 b⟩,some ⟨.box 329,.arr 64 .sc,zD .u32 64 w⟩] 2:=by kernel_rfl
theorem zfY (b w:Nat→Nat) (Q:Q4):vO ct0 true ztc (zte 64) (zcS b w) 2 (xY [1,2,4] [0,1] Q)=Q (.exit 2) [.ptr 0 [] (.arr 64 .sc),.ptr 1 [] (.arr 64 .sc),wV .i64 64] [some ⟨.box 374,.arr 64 .sc,zD .u8 64 b⟩,some ⟨.box 329,.arr 64 .sc,zD .u32 64 w⟩] 2:=by kernel_rfl
theorem zfP (n:Nat):KB .e n:=fun id _=>J4 id
theorem ziS (n:Nat) (zm:Zm):WkZ n zm .e:=fun id c h=>by rw[J4] at h; cases h
theorem zH {n id:Nat}{p:List Step}{s:Shape}(h:id < n):wkV n (.ptr id p s) (.ptr id p s):=⟨rfl,h⟩
theorem xW {n:Nat}{k:IntKind}{a:Nat}:wkV n (wV k a) (wV k a):=⟨rfl,trivial⟩
theorem z6 {T:TypeId}{n:Nat}{s:Shape}{v w:V}(h:v.le w) (hb:v.bel n):wkB n (some ⟨.box T,s,v⟩) ⟨.box T,s,w⟩:=⟨_,rfl,rfl,rfl,h,hb⟩
theorem zbm (k:IntKind) (n:Nat) (f:Nat→Nat):(zD k n f).own:=fun i _=>trivial
theorem qo {k:IntKind}{n:Nat}{f:Nat→V}(h:v6 k n f=true):(borrow (.arr n f)).le (zD k n fun i=>xp (f i))∧∀ m,(borrow (.arr n f)).bel m:=by
 have key:∀ i,i < n→borrow (f i)=wV k (xp (f i)):=fun i hi=>by
  rw[JT (List.all_eq_true.1 h i (List.mem_range.2 hi))]; rfl
 refine⟨⟨rfl,fun i hi=>?_⟩,fun m i hi=>?_⟩
 ·show (borrow (f i)).le (wV k (xp (f i)))
  rw[key i hi]; exact V.le_refl _
 ·show (borrow (f i)).bel m
  rw[key i hi]; trivial
def ziT:CSpec where
 pre:=fun l=>match l with
  | [.arr 64 f]=>v6 .u8 64 f
  | _=>false
 res:=fun l=>match l with
  | [.arr 64 f]=>zD .u32 64 (S.sched fun i=>xp (f i))
  | _=>.unk
 fresh:=true
theorem ziU {args:List V}(h:ziT.pre args=true):∃ f,args=[.arr 64 f]∧v6 .u8 64 f=true:=by
 simp only[ziT] at h
 split at h
 ·exact⟨_,rfl,h⟩
 ·cases h
theorem zvu (b:Nat→Nat) (Q:Q4):vO ct0 true (v7 zfW) (mkT [0] [zD .u8 64 b]) .e 0 (xY [1,2] [0,1] Q)=Q .normal [.ptr 0 [] (.arr 64 .sc),.ptr 1 [] (.arr 64 .sc)] [some ⟨.box 374,.arr 64 .sc,zD .u8 64 b⟩,some ⟨.box 329,.arr 64 .sc,zD .u32 64 fun _=>0⟩] 2:=by kernel_rfl
theorem zvv (b w:Nat→Nat) (Q:Q4):vO ct0 true (v7 (v7 (xi zfW))) (mkT [1,2] [.ptr 0 [] (.arr 64 .sc),.ptr 1 [] (.arr 64 .sc)]) (zcS b w) 2 (xY [1,2,9] [0,1] Q)=Q .normal [.ptr 0 [] (.arr 64 .sc),.ptr 1 [] (.arr 64 .sc),wV .i64 0] [some ⟨.box 374,.arr 64 .sc,zD .u8 64 b⟩,some ⟨.box 329,.arr 64 .sc,zD .u32 64 w⟩] 2:=by kernel_rfl
theorem zvw (b w:Nat→Nat) (Q:Q4):vO ct0 true (v7 (v7 (xi (xi zfW)))) (mkT [1,2] [.ptr 0 [] (.arr 64 .sc),.ptr 1 [] (.arr 64 .sc)]) (zcS b w) 2 (xY [1,2,4] [0,1] Q)=Q .normal [.ptr 0 [] (.arr 64 .sc),.ptr 1 [] (.arr 64 .sc),wV .i64 16] [some ⟨.box 374,.arr 64 .sc,zD .u8 64 b⟩,some ⟨.box 329,.arr 64 .sc,zD .u32 64 w⟩] 2:=by kernel_rfl
theorem zvx (b w:Nat→Nat) (Q:V→Prop):vO ct0 true (xi (xi (xi zfW))) (mkT [1,2] [.ptr 0 [] (.arr 64 .sc),.ptr 1 [] (.arr 64 .sc)]) (zcS b w) 2 (Vb Tryz.prog (zjN 298) (ztO Q))=Q (zD .u32 64 w):=by kernel_rfl
def YG:List V:=[.ptr 0 [] (.arr 64 .sc),.ptr 1 [] (.arr 64 .sc)]
theorem zpZ:xF Tryz.prog 298 ziT:=by
 refine Xo QG (f:=298) (fn:=zfS 298) (c:=Zj 298) (by kernel_rfl) (by kernel_rfl) ?_
 intro B N args hp hN
 obtain⟨f,rfl,hf⟩:=ziU hp
 generalize hbd:(fun i=>xp (f i))=b
 have hcode:cOk (zfS 298).ntmps (Zj 298)=true:=by kernel_rfl
 have hb:=qo (k:=.u8) hf
 rw[hbd] at hb
 refine WR.weak QG (tm1:=mkT [0] [zD .u8 64 b]) (zm1:=.e) (wH (lt:=[0]) (vs:=[zD .u8 64 b]) ⟨⟨hb.1,hb.2 _⟩,trivial⟩) (ziS _ _) (zfP _) ?_
 refine WR.seq' (by kernel_rfl) ?_
 refine WR.then QG hN (by kernel_rfl) (zfP _) [1,2] [0,1] YG [⟨.box 374,.arr 64 .sc,zD .u8 64 b⟩,⟨.box 329,.arr 64 .sc,zD .u32 64 (S.wS b 0)⟩] (zvu b) ⟨zH (by decide),zH (by decide),trivial⟩ ⟨⟨by decide,z6 (V.le_refl _) (z7 _ _ _ _)⟩,⟨by decide,z6 (V.le_refl _) (z7 _ _ _ _)⟩,trivial⟩ fun hkb=>?_
 refine WR.seq' (by kernel_rfl) ?_
 refine WR.seq' (by kernel_rfl) ?_
 refine WR.then QG hN (by kernel_rfl) hkb [1,2,9] [0,1] [.ptr 0 [] (.arr 64 .sc),.ptr 1 [] (.arr 64 .sc),wV .i64 0] [⟨.box 374,.arr 64 .sc,zD .u8 64 b⟩,⟨.box 329,.arr 64 .sc,zD .u32 64 (S.wS b 0)⟩] (zvv b _) ⟨zH (by decide),zH (by decide),xW,trivial⟩ ⟨⟨by decide,z6 (V.le_refl _) (z7 _ _ _ _)⟩,⟨by decide,z6 (V.le_refl _) (z7 _ _ _ _)⟩,trivial⟩ fun hkb=>?_
 refine WR.block' (i:=0) (by kernel_rfl) ?_
 refine WR.loopN QG hN (by kernel_rfl) hkb (by kernel_rfl) 2 16 [1,2,9] [0,1] (fun t=>[.ptr 0 [] (.arr 64 .sc),.ptr 1 [] (.arr 64 .sc),wV .i64 t]) (fun t=>[⟨.box 374,.arr 64 .sc,zD .u8 64 b⟩,⟨.box 329,.arr 64 .sc,zD .u32 64 (S.wS b t)⟩])
  ⟨zH (by decide),zH (by decide),xW,trivial⟩ ⟨⟨by decide,z6 (V.le_refl _) (z7 _ _ _ _)⟩,⟨by decide,z6 (V.le_refl _) (z7 _ _ _ _)⟩,trivial⟩
  (fun t=>[.ptr 0 [] (.arr 64 .sc),.ptr 1 [] (.arr 64 .sc),wV .i64 (t + 1)]) (fun t=>[some ⟨.box 374,.arr 64 .sc,zD .u8 64 b⟩,some ⟨.box 329,.arr 64 .sc,V.set [.idx t] (wV .u32 (S.load32 b t)) (zD .u32 64 (S.wS b t))⟩]) (fun _=>2)
  (fun t ht=>⟨zBV t ht b _,Nat.le_refl _,⟨zH (by decide),zH (by decide),xW,trivial⟩,⟨by decide,z6 (V.le_refl _) (z7 _ _ _ _)⟩,⟨by decide,z6 (by rw[S.wS_lo b t ht]; exact Xb) jM⟩,trivial⟩)
  [1,2,9] [0,1] (e:=.exit 0) (by intro h; cases h) (zfX b _) (Nat.le_refl _) fun tm' zm' h1 h2 hk=>?_
 refine jS QG [1,2,9] [0,1] YG [⟨.box 374,.arr 64 .sc,zD .u8 64 b⟩,⟨.box 329,.arr 64 .sc,zD .u32 64 (S.wS b 16)⟩] tm' zm' h1 h2 hk ⟨zH (by decide),zH (by decide),trivial⟩ ⟨⟨by decide,z6 (V.le_refl _) (z7 _ _ _ _)⟩,⟨by decide,z6 (V.le_refl _) (z7 _ _ _ _)⟩,trivial⟩ fun hkb=>?_
 refine WR.seq' (by kernel_rfl) ?_
 refine WR.seq' (by kernel_rfl) ?_
 refine WR.then QG hN (by kernel_rfl) hkb [1,2,4] [0,1] [.ptr 0 [] (.arr 64 .sc),.ptr 1 [] (.arr 64 .sc),wV .i64 16] [⟨.box 374,.arr 64 .sc,zD .u8 64 b⟩,⟨.box 329,.arr 64 .sc,zD .u32 64 (S.wS b 16)⟩] (zvw b _) ⟨zH (by decide),zH (by decide),xW,trivial⟩ ⟨⟨by decide,z6 (V.le_refl _) (z7 _ _ _ _)⟩,⟨by decide,z6 (V.le_refl _) (z7 _ _ _ _)⟩,trivial⟩ fun hkb=>?_
 refine WR.block' (i:=2) (by kernel_rfl) ?_
 refine WR.loopN QG hN (by kernel_rfl) hkb (by kernel_rfl) 2 48 [1,2,4] [0,1] (fun t=>[.ptr 0 [] (.arr 64 .sc),.ptr 1 [] (.arr 64 .sc),wV .i64 (t + 16)]) (fun t=>[⟨.box 374,.arr 64 .sc,zD .u8 64 b⟩,⟨.box 329,.arr 64 .sc,zD .u32 64 (S.wS b (t + 16))⟩])
  ⟨zH (by decide),zH (by decide),xW,trivial⟩ ⟨⟨by decide,z6 (V.le_refl _) (z7 _ _ _ _)⟩,⟨by decide,z6 (V.le_refl _) (z7 _ _ _ _)⟩,trivial⟩
  (fun t=>[.ptr 0 [] (.arr 64 .sc),.ptr 1 [] (.arr 64 .sc),wV .i64 (t + 16 + 1)]) (fun t=>[some ⟨.box 374,.arr 64 .sc,zD .u8 64 b⟩,some ⟨.box 329,.arr 64 .sc,V.set [.idx (t + 16)] (wV .u32 (S.nextW (S.wS b (t + 16) (t + 16 - 15)) (S.wS b (t + 16) (t + 16 - 2)) (S.wS b (t + 16) (t + 16 - 7)) (S.wS b (t + 16) (t + 16 - 16)))) (zD .u32 64 (S.wS b (t + 16)))⟩]) (fun _=>2)
  (fun t ht=>⟨zBW (t + 16) (by omega) (by omega) b _,Nat.le_refl _,⟨zH (by decide),zH (by decide),by rw[show t + 1 + 16=t + 16 + 1 by omega]; exact xW,trivial⟩,⟨by decide,z6 (V.le_refl _) (z7 _ _ _ _)⟩,⟨by decide,z6 (by rw[show t + 1 + 16=t + 16 + 1 by omega,S.wS_hi b (t + 16) (by omega)]; exact Xb) jM⟩,trivial⟩)
  [1,2,4] [0,1] (e:=.exit 2) (by intro h; cases h) (zfY b _) (Nat.le_refl _) fun tm' zm' h1 h2 hk=>?_
 refine jS QG [1,2,4] [0,1] YG [⟨.box 374,.arr 64 .sc,zD .u8 64 b⟩,⟨.box 329,.arr 64 .sc,zD .u32 64 (S.wS b 64)⟩] tm' zm' h1 h2 hk ⟨zH (by decide),zH (by decide),trivial⟩ ⟨⟨by decide,z6 (V.le_refl _) (z7 _ _ _ _)⟩,⟨by decide,z6 (V.le_refl _) (z7 _ _ _ _)⟩,trivial⟩ fun hkb=>?_
 refine WR.run QG (u:=true) (n:=1000000) ?_ (xG hN (by kernel_rfl)) hkb
 refine Eq.mpr (zvx b (S.wS b 64) (ztP ziT [.arr 64 f])) ?_
 refine⟨?_,fun _=>zbm _ _ _⟩
 show (zD .u32 64 (S.wS b 64)).le (zD .u32 64 (S.sched fun i=>xp (f i)))
 rw[hbd]
 exact qb fun i hi=>S.wS_sched b i hi
def ct1:qZ:=fun f=>bif Nat.beq f 298 then some ziT else none
theorem zvy:CTG Tryz.prog ct1:=fun f c h=>by
 unfold ct1 at h
 cases hf:Nat.beq f 298 with
 | true=>rw[hf] at h; cases h; rw[Nat.eq_of_beq_eq_true hf]; exact zpZ
 | false=>rw[hf] at h; cases h
theorem jB:Env Tryz.prog ct1:=zCh zvy
def zbn:Code:=Zj 276
def zsR:Code:=qG (qG (xi (v7 (xi (xi (xi zbn))))))
def zsS:Code:=qG (qG (xi (v7 (xi (xi (xi (xi zbn)))))))
def p8 (i:Nat):V:=.ptr i [] (.arr 8 .sc)
def p64 (i:Nat):V:=.ptr i [] (.arr 64 .sc)
def b8 (f:Nat→Nat):Blk:=⟨.box 330,.arr 8 .sc,zD .u32 8 f⟩
def b64 (f:Nat→Nat):Blk:=⟨.box 329,.arr 64 .sc,zD .u32 64 f⟩
def kK:V:=zD .u32 64 fun i=>x9.getD i 0
def Z2 (t:Nat):List V:=[p8 0,p8 2,p64 3,p8 4,kK,wV .i64 t]
def Z3 (t:Nat):List V:=[p8 0,p8 2,p8 4,wV .i64 t]
def XN (h z w x:Nat→Nat):List Blk:=[b8 h,b8 z,b64 w,b8 x]
def L1:List Nat:=[2,4,5,6,17,18]
def L2:List Nat:=[2,4,6,99]
def LZ:List Nat:=[0,2,3,4]
def zp0 (k w:Nat) (s:S.St):V:=Xr false (zD .u32 8 fun _=>0) [(0,wV .u32 (S.add32 (S.t1 s k w) (S.t2 s))),(1,wV .u32 s.a),(2,wV .u32 s.b),(3,wV .u32 s.c),(4,wV .u32 (S.add32 s.d (S.t1 s k w))),(5,wV .u32 s.e),(6,wV .u32 s.f),(7,wV .u32 s.g)]
def zk (t:Nat):Prop:=∀(h z w:Nat→Nat) (s:S.St) (Q:Q4),vO ct1 true zsR (mkT L1 (Z2 t)) (mkZ LZ (XN h z w s.get)) 5 (xY L1 LZ Q)=Q .normal (Z2 (t + 1)) [some (b8 h),some (b8 z),some (b64 w),some ⟨.box 330,.arr 8 .sc,zp0 (x9.getD t 0) (w t) s⟩] 5
theorem zp1:zk 0:=fun h z w s Q=>by kernel_rfl
theorem zp2:zk 1:=fun h z w s Q=>by kernel_rfl
theorem zp3:zk 2:=fun h z w s Q=>by kernel_rfl
theorem zp4:zk 3:=fun h z w s Q=>by kernel_rfl
theorem zp5:zk 4:=fun h z w s Q=>by kernel_rfl
theorem zp6:zk 5:=fun h z w s Q=>by kernel_rfl
theorem zp7:zk 6:=fun h z w s Q=>by kernel_rfl
theorem zp8:zk 7:=fun h z w s Q=>by kernel_rfl
theorem zp9:zk 8:=fun h z w s Q=>by kernel_rfl
theorem zqa:zk 9:=fun h z w s Q=>by kernel_rfl
theorem ziV:zk 10:=fun h z w s Q=>by kernel_rfl
theorem ziW:zk 11:=fun h z w s Q=>by kernel_rfl
theorem ziX:zk 12:=fun h z w s Q=>by kernel_rfl
theorem ziY:zk 13:=fun h z w s Q=>by kernel_rfl
theorem ziZ:zk 14:=fun h z w s Q=>by kernel_rfl
theorem zi0:zk 15:=fun h z w s Q=>by kernel_rfl
theorem zi1:zk 16:=fun h z w s Q=>by kernel_rfl
theorem zi2:zk 17:=fun h z w s Q=>by kernel_rfl
theorem zi3:zk 18:=fun h z w s Q=>by kernel_rfl
theorem zi4:zk 19:=fun h z w s Q=>by kernel_rfl
theorem zi5:zk 20:=fun h z w s Q=>by kernel_rfl
theorem zi6:zk 21:=fun h z w s Q=>by kernel_rfl
theorem zi7:zk 22:=fun h z w s Q=>by kernel_rfl
theorem zi8:zk 23:=fun h z w s Q=>by kernel_rfl
theorem zi9:zk 24:=fun h z w s Q=>by kernel_rfl
theorem zja:zk 25:=fun h z w s Q=>by kernel_rfl
theorem zjb:zk 26:=fun h z w s Q=>by kernel_rfl
theorem zjc:zk 27:=fun h z w s Q=>by kernel_rfl
theorem zjd:zk 28:=fun h z w s Q=>by kernel_rfl
theorem zje:zk 29:=fun h z w s Q=>by kernel_rfl
theorem zjf:zk 30:=fun h z w s Q=>by kernel_rfl
theorem zjg:zk 31:=fun h z w s Q=>by kernel_rfl
theorem zjh:zk 32:=fun h z w s Q=>by kernel_rfl
theorem zji:zk 33:=fun h z w s Q=>by kernel_rfl
theorem zjj:zk 34:=fun h z w s Q=>by kernel_rfl
theorem zjk:zk 35:=fun h z w s Q=>by kernel_rfl
theorem zjl:zk 36:=fun h z w s Q=>by kernel_rfl
theorem zjm:zk 37:=fun h z w s Q=>by kernel_rfl
theorem zjn:zk 38:=fun h z w s Q=>by kernel_rfl
theorem zjo:zk 39:=fun h z w s Q=>by kernel_rfl
theorem zjp:zk 40:=fun h z w s Q=>by kernel_rfl
theorem zjq:zk 41:=fun h z w s Q=>by kernel_rfl
theorem zjr:zk 42:=fun h z w s Q=>by kernel_rfl
theorem zjs:zk 43:=fun h z w s Q=>by kernel_rfl
theorem zjt:zk 44:=fun h z w s Q=>by kernel_rfl
theorem zju:zk 45:=fun h z w s Q=>by kernel_rfl
theorem zjv:zk 46:=fun h z w s Q=>by kernel_rfl
theorem zjw:zk 47:=fun h z w s Q=>by kernel_rfl
theorem zjx:zk 48:=fun h z w s Q=>by kernel_rfl
theorem zjy:zk 49:=fun h z w s Q=>by kernel_rfl
theorem zjz:zk 50:=fun h z w s Q=>by kernel_rfl
theorem zjA:zk 51:=fun h z w s Q=>by kernel_rfl
theorem zjB:zk 52:=fun h z w s Q=>by kernel_rfl
theorem zjC:zk 53:=fun h z w s Q=>by kernel_rfl
theorem zjD:zk 54:=fun h z w s Q=>by kernel_rfl
theorem zjE:zk 55:=fun h z w s Q=>by kernel_rfl
theorem zjF:zk 56:=fun h z w s Q=>by kernel_rfl
theorem zjG:zk 57:=fun h z w s Q=>by kernel_rfl
theorem zjH:zk 58:=fun h z w s Q=>by kernel_rfl
theorem zjI:zk 59:=fun h z w s Q=>by kernel_rfl
theorem zjJ:zk 60:=fun h z w s Q=>by kernel_rfl
theorem zjK:zk 61:=fun h z w s Q=>by kernel_rfl
theorem zjL:zk 62:=fun h z w s Q=>by kernel_rfl
theorem zjM:zk 63:=fun h z w s Q=>by kernel_rfl
theorem zAF:∀ t,t < 64→zk t:=by
 intro t h2
 exact ye (P:=zk) (n:=64) (⟨⟨⟨⟨⟨⟨⟨⟨⟨⟨⟨⟨⟨⟨⟨⟨⟨⟨⟨⟨⟨⟨⟨⟨⟨⟨⟨⟨⟨⟨⟨⟨⟨⟨⟨⟨⟨⟨⟨⟨⟨⟨⟨⟨⟨⟨⟨⟨⟨⟨⟨⟨⟨⟨⟨⟨⟨⟨⟨⟨⟨⟨⟨⟨trivial,zp1⟩,zp2⟩,zp3⟩,zp4⟩,zp5⟩,zp6⟩,zp7⟩,zp8⟩,zp9⟩,zqa⟩,ziV⟩,ziW⟩,ziX⟩,ziY⟩,ziZ⟩,zi0⟩,zi1⟩,zi2⟩,zi3⟩,zi4⟩,zi5⟩,zi6⟩,zi7⟩,zi8⟩,zi9⟩,zja⟩,zjb⟩,zjc⟩,zjd⟩,zje⟩,zjf⟩,zjg⟩,zjh⟩,zji⟩,zjj⟩,zjk⟩,zjl⟩,zjm⟩,zjn⟩,zjo⟩,zjp⟩,zjq⟩,zjr⟩,zjs⟩,zjt⟩,zju⟩,zjv⟩,zjw⟩,zjx⟩,zjy⟩,zjz⟩,zjA⟩,zjB⟩,zjC⟩,zjD⟩,zjE⟩,zjF⟩,zjG⟩,zjH⟩,zjI⟩,zjJ⟩,zjK⟩,zjL⟩,zjM⟩) t h2
def qu (t:Nat):Prop:=∀(h z w x:Nat→Nat) (Q:Q4),vO ct1 true zsS (mkT L2 (Z3 t)) (mkZ LZ (XN h z w x)) 5 (xY L2 LZ Q)=Q .normal (Z3 (t + 1)) [some ⟨.box 330,.arr 8 .sc,V.set [.idx t] (wV .u32 (S.add32 (h t) (x t))) (zD .u32 8 h)⟩,some (b8 z),some (b64 w),some (b8 x)] 5
theorem zqb:qu 0:=fun h z w x Q=>by kernel_rfl
theorem zqc:qu 1:=fun h z w x Q=>by kernel_rfl
theorem zqd:qu 2:=fun h z w x Q=>by kernel_rfl
theorem zqe:qu 3:=fun h z w x Q=>by kernel_rfl
theorem zqf:qu 4:=fun h z w x Q=>by kernel_rfl
theorem zqg:qu 5:=fun h z w x Q=>by kernel_rfl
theorem zqh:qu 6:=fun h z w x Q=>by kernel_rfl
theorem zqi:qu 7:=fun h z w x Q=>by kernel_rfl
theorem zAG:∀ t,t < 8→qu t:=by
 intro t h2
 exact ye (P:=qu) (n:=8) (⟨⟨⟨⟨⟨⟨⟨⟨trivial,zqb⟩,zqc⟩,zqd⟩,zqe⟩,zqf⟩,zqg⟩,zqh⟩,zqi⟩) t h2
theorem zvz (h b:Nat→Nat) (Q:Q4):vO ct1 true (v7 zbn) (mkT [0,1] [zD .u32 8 h,zD .u8 64 b]) .e 0 (xY [2,3,4] [0,1,2] Q)=Q .normal [p8 0,p64 1,p8 2] [some (b8 h),some ⟨.box 374,.arr 64 .sc,zD .u8 64 b⟩,some (b8 fun _=>0)] 3:=by kernel_rfl
theorem zvA (h b z:Nat→Nat) (Q:Q4):vO ct1 true (v7 (xi zbn)) (mkT [2,3,4] [p8 0,p64 1,p8 2]) (mkZ [0,1,2] [b8 h,⟨.box 374,.arr 64 .sc,zD .u8 64 b⟩,b8 z]) 3 (xY [2,4,5] [0,2,3] Q)=cnd (v6 .u8 64 fun i=>wV .u8 (b i)) (Q .normal [p8 0,p8 2,p64 3] [some (b8 h),some (b8 z),some (b64 (S.sched b))] 4):=by kernel_rfl
theorem zvB (h z w:Nat→Nat) (Q:Q4):vO ct1 true (v7 (xi (xi zbn))) (mkT [2,4,5] [p8 0,p8 2,p64 3]) (mkZ [0,2,3] [b8 h,b8 z,b64 w]) 4 (xY [2,4,5,6] LZ Q)=Q .normal [p8 0,p8 2,p64 3,p8 4] [some (b8 h),some (b8 z),some (b64 w),some (b8 h)] 5:=by kernel_rfl
theorem zvC (h z w x:Nat→Nat) (Q:Q4):vO ct1 true (v7 (v7 (xi (xi (xi zbn))))) (mkT [2,4,5,6] [p8 0,p8 2,p64 3,p8 4]) (mkZ LZ (XN h z w x)) 5 (xY L1 LZ Q)=Q .normal (Z2 0) [some (b8 h),some (b8 z),some (b64 w),some (b8 x)] 5:=by kernel_rfl
theorem zfQ (h z w x:Nat→Nat) (Q:Q4):vO ct1 true zsR (mkT L1 (Z2 64)) (mkZ LZ (XN h z w x)) 5 (xY [2,4,6] LZ Q)=Q (.exit 0) [p8 0,p8 2,p8 4] [some (b8 h),some (b8 z),some (b64 w),some (b8 x)] 5:=by kernel_rfl
theorem zvD (h z w x:Nat→Nat) (Q:Q4):vO ct1 true (v7 (v7 (xi (xi (xi (xi zbn)))))) (mkT [2,4,6] [p8 0,p8 2,p8 4]) (mkZ LZ (XN h z w x)) 5 (xY L2 LZ Q)=Q .normal (Z3 0) [some (b8 h),some (b8 z),some (b64 w),some (b8 x)] 5:=by kernel_rfl
theorem zfR (h z w x:Nat→Nat) (Q:Q4):vO ct1 true zsS (mkT L2 (Z3 8)) (mkZ LZ (XN h z w x)) 5 (xY [2,4] [0,2] Q)=Q (.exit 2) [p8 0,p8 2] [some (b8 h),some (b8 z)] 5:=by kernel_rfl
theorem zvE (h z:Nat→Nat) (Q:V→Prop):vO ct1 true (xi (xi (xi (xi (xi zbn))))) (mkT [2,4] [p8 0,p8 2]) (mkZ [0,2] [b8 h,b8 z]) 5 (Vb Tryz.prog (zjN 276) (ztO Q))=Q (zD .u32 8 h):=by kernel_rfl
def zqx:CSpec where
 pre:=fun l=>match l with
  | [.arr 8 f,.arr 64 g]=>v6 .u32 8 f&&v6 .u8 64 g
  | _=>false
 res:=fun l=>match l with
  | [.arr 8 f,.arr 64 g]=>zD .u32 8 (S.comp (fun i=>xp (f i)) fun i=>xp (g i))
  | _=>.unk
 fresh:=true
theorem zkp {args:List V}(h:zqx.pre args=true):∃ f g,args=[.arr 8 f,.arr 64 g]∧v6 .u32 8 f=true∧v6 .u8 64 g=true:=by
 simp only[zqx] at h
 split at h
 ·rw[Bool.and_eq_true] at h; exact⟨_,_,rfl,h.1,h.2⟩
 ·cases h
theorem xu {n i:Nat}(h:i < n):wkV n (p8 i) (p8 i):=⟨rfl,h⟩
theorem vQ {n i:Nat}(h:i < n):wkV n (p64 i) (p64 i):=⟨rfl,h⟩
theorem zqy {n:Nat}{k:IntKind}{m:Nat}{f:Nat→Nat}:wkV n (zD k m f) (zD k m f):=⟨V.le_refl _,z7 _ _ _ _⟩
theorem xV {n:Nat}{f:Nat→Nat}:wkB n (some (b8 f)) (b8 f):=z6 (V.le_refl _) (z7 _ _ _ _)
theorem wv {n:Nat}{f:Nat→Nat}:wkB n (some (b64 f)) (b64 f):=z6 (V.le_refl _) (z7 _ _ _ _)
def Wu (a b c d e f g h:Nat):V:=Xr false (zD .u32 8 fun _=>0) [(0,wV .u32 a),(1,wV .u32 b),(2,wV .u32 c),(3,wV .u32 d),(4,wV .u32 e),(5,wV .u32 f),(6,wV .u32 g),(7,wV .u32 h)]
theorem zkq (a b c d e f g h:Nat):(Wu a b c d e f g h).le (zD .u32 8 (S.St.mk a b c d e f g h).get):=by
 refine⟨rfl,fun i hi=>?_⟩
 match i,hi with
 | 0,_=>rfl
 | 1,_=>rfl
 | 2,_=>rfl
 | 3,_=>rfl
 | 4,_=>rfl
 | 5,_=>rfl
 | 6,_=>rfl
 | 7,_=>rfl
theorem zfV (m a b c d e f g h:Nat):(Wu a b c d e f g h).bel m:=by
 intro i hi
 match i,hi with
 | 0,_=>trivial
 | 1,_=>trivial
 | 2,_=>trivial
 | 3,_=>trivial
 | 4,_=>trivial
 | 5,_=>trivial
 | 6,_=>trivial
 | 7,_=>trivial
theorem zqz (k w:Nat) (s:S.St):(zp0 k w s).le (zD .u32 8 (S.rnd k w s).get):=zkq (S.add32 (S.t1 s k w) (S.t2 s)) s.a s.b s.c (S.add32 s.d (S.t1 s k w)) s.e s.f s.g
theorem zkr (m k w:Nat) (s:S.St):(zp0 k w s).bel m:=zfV m (S.add32 (S.t1 s k w) (S.t2 s)) s.a s.b s.c (S.add32 s.d (S.t1 s k w)) s.e s.f s.g
theorem JQ (t:Nat):J8 5 (Z2 t) (Z2 t):=⟨xu (by decide),xu (by decide),vQ (by decide),xu (by decide),zqy,xW,trivial⟩
theorem JR (t:Nat):J8 5 (Z3 t) (Z3 t):=⟨xu (by decide),xu (by decide),xu (by decide),xW,trivial⟩
theorem Xa (h z w x:Nat→Nat):WF 5 LZ [some (b8 h),some (b8 z),some (b64 w),some (b8 x)] (XN h z w x):=⟨⟨by decide,xV⟩,⟨by decide,xV⟩,⟨by decide,wv⟩,⟨by decide,xV⟩,trivial⟩
theorem zks (h:Nat→Nat):(zD .u32 8 h).le (zD .u32 8 (S.stOf h).get):=qb fun i hi=>by
 match i,hi with
 | 0,_=>rfl
 | 1,_=>rfl
 | 2,_=>rfl
 | 3,_=>rfl
 | 4,_=>rfl
 | 5,_=>rfl
 | 6,_=>rfl
 | 7,_=>rfl
theorem zeO:xF Tryz.prog 276 zqx:=by
 refine Xo jB (f:=276) (fn:=zfS 276) (c:=Zj 276) (by kernel_rfl) (by kernel_rfl) ?_
 intro B N args hp hN
 obtain⟨f,g,rfl,hf,hg⟩:=zkp hp
 generalize hhd:(fun i=>xp (f i))=h
 generalize hbd:(fun i=>xp (g i))=b
 have hb1:=qo (k:=.u32) hf
 have hb2:=qo (k:=.u8) hg
 rw[hhd] at hb1
 rw[hbd] at hb2
 refine WR.weak jB (tm1:=mkT [0,1] [zD .u32 8 h,zD .u8 64 b]) (zm1:=.e) (wH (lt:=[0,1]) (vs:=[zD .u32 8 h,zD .u8 64 b]) ⟨⟨hb1.1,hb1.2 _⟩,⟨hb2.1,hb2.2 _⟩,trivial⟩) (ziS _ _) (zfP _) ?_
 refine WR.seq' (by kernel_rfl) ?_
 refine WR.then jB hN (by kernel_rfl) (zfP _) [2,3,4] [0,1,2] [p8 0,p64 1,p8 2] [b8 h,⟨.box 374,.arr 64 .sc,zD .u8 64 b⟩,b8 fun _=>0] (zvz h b) ⟨xu (by decide),vQ (by decide),xu (by decide),trivial⟩ ⟨⟨by decide,xV⟩,⟨by decide,z6 (V.le_refl _) (z7 _ _ _ _)⟩,⟨by decide,xV⟩,trivial⟩ fun hkb=>?_
 refine WR.seq' (by kernel_rfl) ?_
 have hall:v6 .u8 64 (fun i=>wV .u8 (b i))=true:=List.all_eq_true.2 fun i _=>rfl
 refine WR.then jB hN (by kernel_rfl) hkb [2,4,5] [0,2,3] (vs0:=[p8 0,p8 2,p64 3]) (bs0:=[some (b8 h),some (b8 fun _=>0),some (b64 (S.sched b))]) (nx':=4) (u:=true) (fu:=1000000) [p8 0,p8 2,p64 3] [b8 h,b8 fun _=>0,b64 (S.sched b)] (fun Q=>(zvA h b (fun _=>0) Q).trans (by rw[hall]; rfl)) ⟨xu (by decide),xu (by decide),vQ (by decide),trivial⟩ ⟨⟨by decide,xV⟩,⟨by decide,xV⟩,⟨by decide,wv⟩,trivial⟩ fun hkb=>?_
 refine WR.seq' (by kernel_rfl) ?_
 refine WR.then jB hN (by kernel_rfl) hkb [2,4,5,6] LZ [p8 0,p8 2,p64 3,p8 4] (XN h (fun _=>0) (S.sched b) (S.stOf h).get) (zvB h _ _) ⟨xu (by decide),xu (by decide),vQ (by decide),xu (by decide),trivial⟩ ⟨⟨by decide,xV⟩,⟨by decide,xV⟩,⟨by decide,wv⟩,⟨by decide,z6 (zks h) (z7 _ _ _ _)⟩,trivial⟩ fun hkb=>?_
 refine WR.seq' (by kernel_rfl) ?_
 refine WR.seq' (by kernel_rfl) ?_
 refine WR.then jB hN (by kernel_rfl) hkb L1 LZ (Z2 0) (XN h (fun _=>0) (S.sched b) (S.stOf h).get) (zvC h _ _ _) (JQ 0) (Xa _ _ _ _) fun hkb=>?_
 refine WR.block' (i:=0) (by kernel_rfl) ?_
 refine WR.loopN jB hN (by kernel_rfl) hkb (by kernel_rfl) 5 64 L1 LZ Z2 (fun t=>XN h (fun _=>0) (S.sched b) (S.rounds (S.sched b) (S.stOf h) t).get)
  (JQ 0) (Xa _ _ _ _)
  (fun t=>Z2 (t + 1)) (fun t=>[some (b8 h),some (b8 fun _=>0),some (b64 (S.sched b)),some ⟨.box 330,.arr 8 .sc,zp0 (x9.getD t 0) (S.sched b t) (S.rounds (S.sched b) (S.stOf h) t)⟩]) (fun _=>5)
  (fun t ht=>⟨zAF t ht h _ _ _,Nat.le_refl _,JQ (t + 1),⟨by decide,xV⟩,⟨by decide,xV⟩,⟨by decide,wv⟩,⟨by decide,z6 (zqz _ _ _) (zkr _ _ _ _)⟩,trivial⟩)
  [2,4,6] LZ (e:=.exit 0) (by intro h; cases h) (zfQ h _ _ _) (Nat.le_refl _) fun tm' zm' h1 h2 hk=>?_
 refine jS jB [2,4,6] LZ [p8 0,p8 2,p8 4] (XN h (fun _=>0) (S.sched b) (S.rounds (S.sched b) (S.stOf h) 64).get) tm' zm' h1 h2 hk ⟨xu (by decide),xu (by decide),xu (by decide),trivial⟩ (Xa _ _ _ _) fun hkb=>?_
 generalize hxs:(S.rounds (S.sched b) (S.stOf h) 64).get=x at hkb ⊢
 refine WR.seq' (by kernel_rfl) ?_
 refine WR.seq' (by kernel_rfl) ?_
 refine WR.then jB hN (by kernel_rfl) hkb L2 LZ (Z3 0) (XN (S.accS h x 0) (fun _=>0) (S.sched b) x) (zvD h _ _ _) (JR 0) (Xa _ _ _ _) fun hkb=>?_
 refine WR.block' (i:=2) (by kernel_rfl) ?_
 refine WR.loopN jB hN (by kernel_rfl) hkb (by kernel_rfl) 5 8 L2 LZ Z3 (fun t=>XN (S.accS h x t) (fun _=>0) (S.sched b) x)
  (JR 0) (Xa _ _ _ _)
  (fun t=>Z3 (t + 1)) (fun t=>[some ⟨.box 330,.arr 8 .sc,V.set [.idx t] (wV .u32 (S.add32 (S.accS h x t t) (x t))) (zD .u32 8 (S.accS h x t))⟩,some (b8 fun _=>0),some (b64 (S.sched b)),some (b8 x)]) (fun _=>5)
  (fun t ht=>⟨zAG t ht _ _ _ _,Nat.le_refl _,JR (t + 1),⟨by decide,z6 Xb jM⟩,⟨by decide,xV⟩,⟨by decide,wv⟩,⟨by decide,xV⟩,trivial⟩)
  [2,4] [0,2] (e:=.exit 2) (by intro h; cases h) (zfR _ _ _ _) (Nat.le_refl _) fun tm' zm' h1 h2 hk=>?_
 refine jS jB [2,4] [0,2] [p8 0,p8 2] [b8 (S.accS h x 8),b8 fun _=>0] tm' zm' h1 h2 hk ⟨xu (by decide),xu (by decide),trivial⟩ ⟨⟨by decide,xV⟩,⟨by decide,xV⟩,trivial⟩ fun hkb=>?_
 refine WR.run jB (u:=true) (n:=1000000) ?_ (xG hN (by kernel_rfl)) hkb
 refine Eq.mpr (zvE (S.accS h x 8) (fun _=>0) (ztP zqx [.arr 8 f,.arr 64 g])) ?_
 refine⟨?_,fun _=>zbm _ _ _⟩
 show (zD .u32 8 (S.accS h x 8)).le (zD .u32 8 (S.comp (fun i=>xp (f i)) fun i=>xp (g i)))
 rw[hhd,hbd]
 refine qb fun i hi=>?_
 rw[S.accS_lt h x 8 i hi,←hxs]
 rfl
def zrm:Code:=Zj 190
def zf2:Code:=xi (xi (xi zrm))
def zeX:Code:=qG (qG (xi (v7 zf2)))
def zts:Code:=qG (qG (xi (v7 (xi (xi zf2)))))
def roB (cl:Bool) (b:Nat→Nat):V:=.ro true cl .sc 64 fun i=>wV .u8 (b i)
def qV (cl:Bool) (b:Nat→Nat) (t:Nat):List V:=[roB cl b,p8 0,p8 1,p64 4,p64 6,wV .i64 t]
def wC (s:S.St) (t:Nat):List V:=[p8 0,p8 1,p64 4,p64 6,wV .u32 s.a,wV .u32 s.b,wV .u32 s.c,wV .u32 s.d,wV .u32 s.e,wV .u32 s.f,wV .u32 s.g,wV .u32 s.h,wV .i64 t]
def M1:List Nat:=[1,2,4,5,7,8]
def M2:List Nat:=[2,4,5,7,13,14,15,16,17,18,19,20,21]
def MZ:List Nat:=[0,1,4,6]
def yi (h z k w:Nat→Nat):List Blk:=[b8 h,b8 z,b64 k,b64 w]
def kT:V:=Xr false (zD .u32 64 fun _=>0) ((List.range 64).map fun i=>(i,wV .u32 (x9.getD i 0)))
def vg (t:Nat):Prop:=∀(cl:Bool) (b h z k w:Nat→Nat) (Q:Q4),vO ct1 true zeX (mkT M1 (qV cl b t)) (mkZ MZ (yi h z k w)) 7 (xY M1 MZ Q)=Q .normal (qV cl b (t + 1)) [some (b8 h),some (b8 z),some (b64 k),some ⟨.box 329,.arr 64 .sc,V.set [.idx t] (wV .u32 (R.load32 b t)) (zD .u32 64 w)⟩] 7
theorem zrn:vg 0:=fun cl b h z k w Q=>by kernel_rfl
theorem zro:vg 1:=fun cl b h z k w Q=>by kernel_rfl
theorem zrp:vg 2:=fun cl b h z k w Q=>by kernel_rfl
theorem zrq:vg 3:=fun cl b h z k w Q=>by kernel_rfl
theorem zrr:vg 4:=fun cl b h z k w Q=>by kernel_rfl
theorem zrs:vg 5:=fun cl b h z k w Q=>by kernel_rfl
theorem zrt:vg 6:=fun cl b h z k w Q=>by kernel_rfl
theorem zru:vg 7:=fun cl b h z k w Q=>by kernel_rfl
theorem zrv:vg 8:=fun cl b h z k w Q=>by kernel_rfl
theorem zrw:vg 9:=fun cl b h z k w Q=>by kernel_rfl
theorem zlO:vg 10:=fun cl b h z k w Q=>by kernel_rfl
theorem zlP:vg 11:=fun cl b h z k w Q=>by kernel_rfl
theorem zlQ:vg 12:=fun cl b h z k w Q=>by kernel_rfl
theorem zlR:vg 13:=fun cl b h z k w Q=>by kernel_rfl
theorem zlS:vg 14:=fun cl b h z k w Q=>by kernel_rfl
theorem zlT:vg 15:=fun cl b h z k w Q=>by kernel_rfl
theorem zCF:∀ t,t < 16→vg t:=by
 intro t h2
 exact ye (P:=vg) (n:=16) (⟨⟨⟨⟨⟨⟨⟨⟨⟨⟨⟨⟨⟨⟨⟨⟨trivial,zrn⟩,zro⟩,zrp⟩,zrq⟩,zrr⟩,zrs⟩,zrt⟩,zru⟩,zrv⟩,zrw⟩,zlO⟩,zlP⟩,zlQ⟩,zlR⟩,zlS⟩,zlT⟩) t h2
def zA (t:Nat):Prop:=∀(cl:Bool) (b h z k w:Nat→Nat) (Q:Q4),vO ct1 true zeX (mkT M1 (qV cl b t)) (mkZ MZ (yi h z k w)) 7 (xY M1 MZ Q)=Q .normal (qV cl b (t + 1)) [some (b8 h),some (b8 z),some (b64 k),some ⟨.box 329,.arr 64 .sc,V.set [.idx t] (wV .u32 (R.nextW (w (t - 15)) (w (t - 2)) (w (t - 7)) (w (t - 16)))) (zD .u32 64 w)⟩] 7
theorem zlU:zA 16:=fun cl b h z k w Q=>by kernel_rfl
theorem zlV:zA 17:=fun cl b h z k w Q=>by kernel_rfl
theorem zlW:zA 18:=fun cl b h z k w Q=>by kernel_rfl
theorem zlX:zA 19:=fun cl b h z k w Q=>by kernel_rfl
theorem zlY:zA 20:=fun cl b h z k w Q=>by kernel_rfl
theorem zlZ:zA 21:=fun cl b h z k w Q=>by kernel_rfl
theorem zl0:zA 22:=fun cl b h z k w Q=>by kernel_rfl
theorem zl1:zA 23:=fun cl b h z k w Q=>by kernel_rfl
theorem zl2:zA 24:=fun cl b h z k w Q=>by kernel_rfl
theorem zl3:zA 25:=fun cl b h z k w Q=>by kernel_rfl
theorem zl4:zA 26:=fun cl b h z k w Q=>by kernel_rfl
theorem zl5:zA 27:=fun cl b h z k w Q=>by kernel_rfl
theorem zl6:zA 28:=fun cl b h z k w Q=>by kernel_rfl
theorem zl7:zA 29:=fun cl b h z k w Q=>by kernel_rfl
theorem zl8:zA 30:=fun cl b h z k w Q=>by kernel_rfl
theorem zl9:zA 31:=fun cl b h z k w Q=>by kernel_rfl
theorem zma:zA 32:=fun cl b h z k w Q=>by kernel_rfl
theorem zmb:zA 33:=fun cl b h z k w Q=>by kernel_rfl
theorem zmc:zA 34:=fun cl b h z k w Q=>by kernel_rfl
theorem zmd:zA 35:=fun cl b h z k w Q=>by kernel_rfl
theorem zme:zA 36:=fun cl b h z k w Q=>by kernel_rfl
theorem zmf:zA 37:=fun cl b h z k w Q=>by kernel_rfl
theorem zmg:zA 38:=fun cl b h z k w Q=>by kernel_rfl
theorem zmh:zA 39:=fun cl b h z k w Q=>by kernel_rfl
theorem zmi:zA 40:=fun cl b h z k w Q=>by kernel_rfl
theorem zmj:zA 41:=fun cl b h z k w Q=>by kernel_rfl
theorem zmk:zA 42:=fun cl b h z k w Q=>by kernel_rfl
theorem zml:zA 43:=fun cl b h z k w Q=>by kernel_rfl
theorem zmm:zA 44:=fun cl b h z k w Q=>by kernel_rfl
theorem zmn:zA 45:=fun cl b h z k w Q=>by kernel_rfl
theorem zmo:zA 46:=fun cl b h z k w Q=>by kernel_rfl
theorem zmp:zA 47:=fun cl b h z k w Q=>by kernel_rfl
theorem zmq:zA 48:=fun cl b h z k w Q=>by kernel_rfl
theorem zmr:zA 49:=fun cl b h z k w Q=>by kernel_rfl
theorem zms:zA 50:=fun cl b h z k w Q=>by kernel_rfl
theorem zmt:zA 51:=fun cl b h z k w Q=>by kernel_rfl
theorem zmu:zA 52:=fun cl b h z k w Q=>by kernel_rfl
theorem zmv:zA 53:=fun cl b h z k w Q=>by kernel_rfl
theorem zmw:zA 54:=fun cl b h z k w Q=>by kernel_rfl
theorem zmx:zA 55:=fun cl b h z k w Q=>by kernel_rfl
theorem zmy:zA 56:=fun cl b h z k w Q=>by kernel_rfl
theorem zmz:zA 57:=fun cl b h z k w Q=>by kernel_rfl
theorem zmA:zA 58:=fun cl b h z k w Q=>by kernel_rfl
theorem zmB:zA 59:=fun cl b h z k w Q=>by kernel_rfl
theorem zmC:zA 60:=fun cl b h z k w Q=>by kernel_rfl
theorem zmD:zA 61:=fun cl b h z k w Q=>by kernel_rfl
theorem zmE:zA 62:=fun cl b h z k w Q=>by kernel_rfl
theorem zmF:zA 63:=fun cl b h z k w Q=>by kernel_rfl
theorem zCG:∀ t,16≤t→t < 64→zA t:=by
 intro t h1 h2
 obtain⟨d,rfl⟩:∃ d,t=d + 16:=⟨t - 16,by omega⟩
 exact ye (P:=fun d=>zA (d + 16)) (n:=48) (⟨⟨⟨⟨⟨⟨⟨⟨⟨⟨⟨⟨⟨⟨⟨⟨⟨⟨⟨⟨⟨⟨⟨⟨⟨⟨⟨⟨⟨⟨⟨⟨⟨⟨⟨⟨⟨⟨⟨⟨⟨⟨⟨⟨⟨⟨⟨⟨trivial,zlU⟩,zlV⟩,zlW⟩,zlX⟩,zlY⟩,zlZ⟩,zl0⟩,zl1⟩,zl2⟩,zl3⟩,zl4⟩,zl5⟩,zl6⟩,zl7⟩,zl8⟩,zl9⟩,zma⟩,zmb⟩,zmc⟩,zmd⟩,zme⟩,zmf⟩,zmg⟩,zmh⟩,zmi⟩,zmj⟩,zmk⟩,zml⟩,zmm⟩,zmn⟩,zmo⟩,zmp⟩,zmq⟩,zmr⟩,zms⟩,zmt⟩,zmu⟩,zmv⟩,zmw⟩,zmx⟩,zmy⟩,zmz⟩,zmA⟩,zmB⟩,zmC⟩,zmD⟩,zmE⟩,zmF⟩) d (by omega)
def zl (t:Nat):Prop:=∀(h z k w:Nat→Nat) (s:S.St) (Q:Q4),vO ct1 true zts (mkT M2 (wC s t)) (mkZ MZ (yi h z k w)) 7 (xY M2 MZ Q)=Q .normal (wC (R.rnd (k t) (w t) s) (t + 1)) [some (b8 h),some (b8 z),some (b64 k),some (b64 w)] 7
theorem zrx:zl 0:=fun h z k w s Q=>by kernel_rfl
theorem zry:zl 1:=fun h z k w s Q=>by kernel_rfl
theorem zrz:zl 2:=fun h z k w s Q=>by kernel_rfl
theorem zrA:zl 3:=fun h z k w s Q=>by kernel_rfl
theorem zrB:zl 4:=fun h z k w s Q=>by kernel_rfl
theorem zrC:zl 5:=fun h z k w s Q=>by kernel_rfl
theorem zrD:zl 6:=fun h z k w s Q=>by kernel_rfl
theorem zrE:zl 7:=fun h z k w s Q=>by kernel_rfl
theorem zrF:zl 8:=fun h z k w s Q=>by kernel_rfl
theorem zrG:zl 9:=fun h z k w s Q=>by kernel_rfl
theorem zmG:zl 10:=fun h z k w s Q=>by kernel_rfl
theorem zmH:zl 11:=fun h z k w s Q=>by kernel_rfl
theorem zmI:zl 12:=fun h z k w s Q=>by kernel_rfl
theorem zmJ:zl 13:=fun h z k w s Q=>by kernel_rfl
theorem zmK:zl 14:=fun h z k w s Q=>by kernel_rfl
theorem zmL:zl 15:=fun h z k w s Q=>by kernel_rfl
theorem zmM:zl 16:=fun h z k w s Q=>by kernel_rfl
theorem zmN:zl 17:=fun h z k w s Q=>by kernel_rfl
theorem zmO:zl 18:=fun h z k w s Q=>by kernel_rfl
theorem zmP:zl 19:=fun h z k w s Q=>by kernel_rfl
theorem zmQ:zl 20:=fun h z k w s Q=>by kernel_rfl
theorem zmR:zl 21:=fun h z k w s Q=>by kernel_rfl
theorem zmS:zl 22:=fun h z k w s Q=>by kernel_rfl
theorem zmT:zl 23:=fun h z k w s Q=>by kernel_rfl
theorem zmU:zl 24:=fun h z k w s Q=>by kernel_rfl
theorem zmV:zl 25:=fun h z k w s Q=>by kernel_rfl
theorem zmW:zl 26:=fun h z k w s Q=>by kernel_rfl
theorem zmX:zl 27:=fun h z k w s Q=>by kernel_rfl
theorem zmY:zl 28:=fun h z k w s Q=>by kernel_rfl
theorem zmZ:zl 29:=fun h z k w s Q=>by kernel_rfl
theorem zm4:zl 30:=fun h z k w s Q=>by kernel_rfl
theorem zm5:zl 31:=fun h z k w s Q=>by kernel_rfl
theorem zm6:zl 32:=fun h z k w s Q=>by kernel_rfl
theorem zm7:zl 33:=fun h z k w s Q=>by kernel_rfl
theorem zm8:zl 34:=fun h z k w s Q=>by kernel_rfl
theorem zm9:zl 35:=fun h z k w s Q=>by kernel_rfl
theorem zna:zl 36:=fun h z k w s Q=>by kernel_rfl
theorem znb:zl 37:=fun h z k w s Q=>by kernel_rfl
theorem znc:zl 38:=fun h z k w s Q=>by kernel_rfl
theorem znd:zl 39:=fun h z k w s Q=>by kernel_rfl
theorem zne:zl 40:=fun h z k w s Q=>by kernel_rfl
theorem znf:zl 41:=fun h z k w s Q=>by kernel_rfl
theorem zng:zl 42:=fun h z k w s Q=>by kernel_rfl
theorem znh:zl 43:=fun h z k w s Q=>by kernel_rfl
theorem zni:zl 44:=fun h z k w s Q=>by kernel_rfl
theorem znj:zl 45:=fun h z k w s Q=>by kernel_rfl
theorem znk:zl 46:=fun h z k w s Q=>by kernel_rfl
theorem znl:zl 47:=fun h z k w s Q=>by kernel_rfl
theorem znm:zl 48:=fun h z k w s Q=>by kernel_rfl
theorem znn:zl 49:=fun h z k w s Q=>by kernel_rfl
theorem zno:zl 50:=fun h z k w s Q=>by kernel_rfl
theorem znp:zl 51:=fun h z k w s Q=>by kernel_rfl
theorem znq:zl 52:=fun h z k w s Q=>by kernel_rfl
theorem znr:zl 53:=fun h z k w s Q=>by kernel_rfl
theorem zns:zl 54:=fun h z k w s Q=>by kernel_rfl
theorem znt:zl 55:=fun h z k w s Q=>by kernel_rfl
theorem znu:zl 56:=fun h z k w s Q=>by kernel_rfl
theorem znv:zl 57:=fun h z k w s Q=>by kernel_rfl
theorem znw:zl 58:=fun h z k w s Q=>by kernel_rfl
theorem znx:zl 59:=fun h z k w s Q=>by kernel_rfl
theorem zny:zl 60:=fun h z k w s Q=>by kernel_rfl
theorem znz:zl 61:=fun h z k w s Q=>by kernel_rfl
theorem znA:zl 62:=fun h z k w s Q=>by kernel_rfl
theorem znB:zl 63:=fun h z k w s Q=>by kernel_rfl
theorem zCH:∀ t,t < 64→zl t:=by
 intro t h2
 exact ye (P:=zl) (n:=64) (⟨⟨⟨⟨⟨⟨⟨⟨⟨⟨⟨⟨⟨⟨⟨⟨⟨⟨⟨⟨⟨⟨⟨⟨⟨⟨⟨⟨⟨⟨⟨⟨⟨⟨⟨⟨⟨⟨⟨⟨⟨⟨⟨⟨⟨⟨⟨⟨⟨⟨⟨⟨⟨⟨⟨⟨⟨⟨⟨⟨⟨⟨⟨⟨trivial,zrx⟩,zry⟩,zrz⟩,zrA⟩,zrB⟩,zrC⟩,zrD⟩,zrE⟩,zrF⟩,zrG⟩,zmG⟩,zmH⟩,zmI⟩,zmJ⟩,zmK⟩,zmL⟩,zmM⟩,zmN⟩,zmO⟩,zmP⟩,zmQ⟩,zmR⟩,zmS⟩,zmT⟩,zmU⟩,zmV⟩,zmW⟩,zmX⟩,zmY⟩,zmZ⟩,zm4⟩,zm5⟩,zm6⟩,zm7⟩,zm8⟩,zm9⟩,zna⟩,znb⟩,znc⟩,znd⟩,zne⟩,znf⟩,zng⟩,znh⟩,zni⟩,znj⟩,znk⟩,znl⟩,znm⟩,znn⟩,zno⟩,znp⟩,znq⟩,znr⟩,zns⟩,znt⟩,znu⟩,znv⟩,znw⟩,znx⟩,zny⟩,znz⟩,znA⟩,znB⟩) t h2
theorem zxC (cl:Bool) (h b:Nat→Nat) (Q:Q4):vO ct1 true (v7 zrm) (mkT [0,1] [zD .u32 8 h,roB cl b]) .e 0 (xY [1,2,4] [0,1] Q)=Q .normal [roB cl b,p8 0,p8 1] [some (b8 h),some (b8 fun _=>0)] 2:=by kernel_rfl
theorem zxD (cl:Bool) (h b z:Nat→Nat) (Q:Q4):vO ct1 true (v7 (xi zrm)) (mkT [1,2,4] [roB cl b,p8 0,p8 1]) (mkZ [0,1] [b8 h,b8 z]) 2 (xY [1,2,4,5] [0,1,4] Q)=Q .normal [roB cl b,p8 0,p8 1,p64 4] [some (b8 h),some (b8 z),some ⟨.box 329,.arr 64 .sc,kT⟩] 6:=by kernel_rfl
theorem zxE (cl:Bool) (h b z k:Nat→Nat) (Q:Q4):vO ct1 true (v7 (xi (xi zrm))) (mkT [1,2,4,5] [roB cl b,p8 0,p8 1,p64 4]) (mkZ [0,1,4] [b8 h,b8 z,b64 k]) 6 (xY [1,2,4,5,7] MZ Q)=Q .normal [roB cl b,p8 0,p8 1,p64 4,p64 6] [some (b8 h),some (b8 z),some (b64 k),some (b64 fun _=>0)] 7:=by kernel_rfl
theorem zxF (cl:Bool) (h b z k w:Nat→Nat) (Q:Q4):vO ct1 true (v7 (v7 zf2)) (mkT [1,2,4,5,7] [roB cl b,p8 0,p8 1,p64 4,p64 6]) (mkZ MZ (yi h z k w)) 7 (xY M1 MZ Q)=Q .normal (qV cl b 0) [some (b8 h),some (b8 z),some (b64 k),some (b64 w)] 7:=by kernel_rfl
theorem zf3 (cl:Bool) (h b z k w:Nat→Nat) (Q:Q4):vO ct1 true zeX (mkT M1 (qV cl b 64)) (mkZ MZ (yi h z k w)) 7 (xY [2,4,5,7] MZ Q)=Q (.exit 0) [p8 0,p8 1,p64 4,p64 6] [some (b8 h),some (b8 z),some (b64 k),some (b64 w)] 7:=by kernel_rfl
theorem zxG (h z k w:Nat→Nat) (Q:Q4):vO ct1 true (v7 (xi zf2)) (mkT [2,4,5,7] [p8 0,p8 1,p64 4,p64 6]) (mkZ MZ (yi h z k w)) 7 (xY [2,4,5,7,13,14,15,16,17,18,19,20] MZ Q)=Q .normal [p8 0,p8 1,p64 4,p64 6,wV .u32 (h 0),wV .u32 (h 1),wV .u32 (h 2),wV .u32 (h 3),wV .u32 (h 4),wV .u32 (h 5),wV .u32 (h 6),wV .u32 (h 7)] [some (b8 h),some (b8 z),some (b64 k),some (b64 w)] 7:=by kernel_rfl
theorem zxH (h z k w:Nat→Nat) (s:S.St) (Q:Q4):vO ct1 true (v7 (v7 (xi (xi zf2)))) (mkT [2,4,5,7,13,14,15,16,17,18,19,20] [p8 0,p8 1,p64 4,p64 6,wV .u32 s.a,wV .u32 s.b,wV .u32 s.c,wV .u32 s.d,wV .u32 s.e,wV .u32 s.f,wV .u32 s.g,wV .u32 s.h]) (mkZ MZ (yi h z k w)) 7 (xY M2 MZ Q)=Q .normal (wC s 0) [some (b8 h),some (b8 z),some (b64 k),some (b64 w)] 7:=by kernel_rfl
theorem zf4 (h z k w:Nat→Nat) (s:S.St) (Q:Q4):vO ct1 true zts (mkT M2 (wC s 64)) (mkZ MZ (yi h z k w)) 7 (xY M2 [0,1] Q)=Q (.exit 2) (wC s 64) [some (b8 h),some (b8 z)] 7:=by kernel_rfl
theorem zxI (h z:Nat→Nat) (s:S.St) (Q:V→Prop):vO ct1 true (xi (xi (xi zf2))) (mkT M2 (wC s 64)) (mkZ [0,1] [b8 h,b8 z]) 7 (Vb Tryz.prog (zjN 190) (ztO Q))=Q (Wu (S.add32 (h 0) s.a) (S.add32 (h 1) s.b) (S.add32 (h 2) s.c) (S.add32 (h 3) s.d) (S.add32 (h 4) s.e) (S.add32 (h 5) s.f) (S.add32 (h 6) s.g) (S.add32 (h 7) s.h)):=by kernel_rfl
def znM:CSpec where
 pre:=fun l=>match l with
  | [.arr 8 f,.ro _ _ .sc 64 g]=>v6 .u32 8 f&&v6 .u8 64 g
  | _=>false
 res:=fun l=>match l with
  | [.arr 8 f,.ro _ _ .sc 64 g]=>zD .u32 8 (R.comp (fun i=>xp (f i)) fun i=>xp (g i))
  | _=>.unk
 fresh:=true
theorem znN {args:List V}(h:znM.pre args=true):∃ f u cl g,args=[.arr 8 f,.ro u cl .sc 64 g]∧v6 .u32 8 f=true∧v6 .u8 64 g=true:=by
 simp only[znM] at h
 split at h
 ·rw[Bool.and_eq_true] at h; exact⟨_,_,_,_,rfl,h.1,h.2⟩
 ·cases h
theorem zf5 {u cl:Bool}{g:Nat→V}(h:v6 .u8 64 g=true):(borrow (.ro u cl .sc 64 g)).le (roB cl fun i=>xp (g i))∧∀ m,(borrow (.ro u cl .sc 64 g)).bel m:=by
 have key:∀ i,i < 64→borrow (g i)=wV .u8 (xp (g i)):=fun i hi=>by
  rw[JT (List.all_eq_true.1 h i (List.mem_range.2 hi))]; rfl
 refine⟨⟨rfl,fun h=>h,rfl,rfl,fun i hi=>?_⟩,fun m=>trivial⟩
 show (borrow (g i)).le (wV .u8 (xp (g i)))
 rw[key i hi]; exact V.le_refl _
theorem zc0:v6 .u32 64 (fun i=>kT.step (.idx i))=true:=by kernel_rfl
theorem znO:((List.range 64).all fun i=>Nat.beq (xp (kT.step (.idx i))) (x9.getD i 0))=true:=by kernel_rfl
theorem znP:kT=.arr 64 fun i=>kT.step (.idx i):=by kernel_rfl
theorem zCW:kT.le (zD .u32 64 fun i=>x9.getD i 0):=by
 have h1:=zqB zc0
 rw[←znP] at h1
 have h2:(zD .u32 64 fun i=>xp (kT.step (.idx i))).le (zD .u32 64 fun i=>x9.getD i 0):=qb fun i hi=>Nat.eq_of_beq_eq_true (List.all_eq_true.1 znO i (List.mem_range.2 hi))
 rw[znP]
 refine⟨rfl,fun i hi=>?_⟩
 have h3:kT.step (.idx i)=wV .u32 (xp (kT.step (.idx i))):=JT (List.all_eq_true.1 zc0 i (List.mem_range.2 hi))
 show (kT.step (.idx i)).le (wV .u32 (x9.getD i 0))
 rw[h3,Nat.eq_of_beq_eq_true (List.all_eq_true.1 znO i (List.mem_range.2 hi))]
 exact V.le_refl _
theorem zx0 (m:Nat):kT.bel m:=by
 rw[znP]
 exact zku zc0
theorem YX {n:Nat}{cl:Bool}{b:Nat→Nat}:wkV n (roB cl b) (roB cl b):=⟨V.le_refl _,trivial⟩
theorem JZ (cl:Bool) (b:Nat→Nat) (t:Nat):J8 7 (qV cl b t) (qV cl b t):=⟨YX,xu (by decide),xu (by decide),vQ (by decide),vQ (by decide),xW,trivial⟩
theorem Xf (s:S.St) (t:Nat):J8 7 (wC s t) (wC s t):=⟨xu (by decide),xu (by decide),vQ (by decide),vQ (by decide),xW,xW,xW,xW,xW,xW,xW,xW,xW,trivial⟩
theorem ww (h z k w:Nat→Nat):WF 7 MZ [some (b8 h),some (b8 z),some (b64 k),some (b64 w)] (yi h z k w):=⟨⟨by decide,xV⟩,⟨by decide,xV⟩,⟨by decide,wv⟩,⟨by decide,wv⟩,trivial⟩
def kF:Nat→Nat:=fun i=>x9.getD i 0
def zF:Nat→Nat:=fun _=>0
def wx (b w:Nat→Nat) (t:Nat):Nat:=bif decide (t < 16) then R.load32 b t else R.nextW (w (t - 15)) (w (t - 2)) (w (t - 7)) (w (t - 16))
theorem zrL (b:Nat→Nat) (t:Nat):R.wS b (t + 1)=fun j=>bif j==t then wx b (R.wS b t) t else R.wS b t j:=by
 by_cases h:t < 16
 ·rw[R.wS_lo b t h]
  unfold wx
  rw[show decide (t < 16)=true by simpa using h]
  rfl
 ·rw[R.wS_hi b t (by omega)]
  unfold wx
  rw[show decide (t < 16)=false by simpa using h]
  rfl
theorem zx1 (cl:Bool) (b:Nat→Nat) (t:Nat) (ht:t < 64) (h z k w:Nat→Nat) (Q:Q4):vO ct1 true zeX (mkT M1 (qV cl b t)) (mkZ MZ (yi h z k w)) 7 (xY M1 MZ Q)=Q .normal (qV cl b (t + 1)) [some (b8 h),some (b8 z),some (b64 k),some ⟨.box 329,.arr 64 .sc,V.set [.idx t] (wV .u32 (wx b w t)) (zD .u32 64 w)⟩] 7:=by
 by_cases h16:t < 16
 ·have:=zCF t h16 cl b h z k w Q
  unfold wx
  rw[show decide (t < 16)=true by simpa using h16]
  exact this
 ·have:=zCG t (by omega) ht cl b h z k w Q
  unfold wx
  rw[show decide (t < 16)=false by simpa using h16]
  exact this
theorem zf6 (h:Nat→Nat) (x:S.St):(Wu (S.add32 (h 0) x.a) (S.add32 (h 1) x.b) (S.add32 (h 2) x.c) (S.add32 (h 3) x.d) (S.add32 (h 4) x.e) (S.add32 (h 5) x.f) (S.add32 (h 6) x.g) (S.add32 (h 7) x.h)).le (zD .u32 8 fun j=>S.add32 (h j) (x.get j)):=by
 have gen:∀(op:Nat→Nat→Nat),(Wu (op (h 0) x.a) (op (h 1) x.b) (op (h 2) x.c) (op (h 3) x.d) (op (h 4) x.e) (op (h 5) x.f) (op (h 6) x.g) (op (h 7) x.h)).le (zD .u32 8 fun j=>op (h j) (x.get j)):=by
  intro op
  refine⟨rfl,fun i hi=>?_⟩
  match i,hi with
  | 0,_=>rfl
  | 1,_=>rfl
  | 2,_=>rfl
  | 3,_=>rfl
  | 4,_=>rfl
  | 5,_=>rfl
  | 6,_=>rfl
  | 7,_=>rfl
 exact gen S.add32
theorem zf7 (a b c d e f g h:Nat):(Wu a b c d e f g h).own:=by
 intro i hi
 match i,hi with
 | 0,_=>trivial
 | 1,_=>trivial
 | 2,_=>trivial
 | 3,_=>trivial
 | 4,_=>trivial
 | 5,_=>trivial
 | 6,_=>trivial
 | 7,_=>trivial
theorem zeZ:xF Tryz.prog 190 znM:=by
 refine Xo jB (f:=190) (fn:=zfS 190) (c:=Zj 190) (by kernel_rfl) (by kernel_rfl) ?_
 intro B N args hp hN
 obtain⟨f,u,cl,g,rfl,hf,hg⟩:=znN hp
 generalize hhd:(fun i=>xp (f i))=h
 generalize hbd:(fun i=>xp (g i))=b
 have hb1:=qo (k:=.u32) hf
 have hb2:=zf5 (u:=u) (cl:=cl) hg
 rw[hhd] at hb1
 rw[hbd] at hb2
 refine WR.weak jB (tm1:=mkT [0,1] [zD .u32 8 h,roB cl b]) (zm1:=.e) (wH (lt:=[0,1]) (vs:=[zD .u32 8 h,roB cl b]) ⟨⟨hb1.1,hb1.2 _⟩,⟨hb2.1,hb2.2 _⟩,trivial⟩) (ziS _ _) (zfP _) ?_
 refine WR.seq' (by kernel_rfl) ?_
 refine WR.then jB hN (by kernel_rfl) (zfP _) [1,2,4] [0,1] [roB cl b,p8 0,p8 1] [b8 h,b8 zF] (zxC cl h b) ⟨YX,xu (by decide),xu (by decide),trivial⟩ ⟨⟨by decide,xV⟩,⟨by decide,xV⟩,trivial⟩ fun hkb=>?_
 refine WR.seq' (by kernel_rfl) ?_
 refine WR.then jB hN (by kernel_rfl) hkb [1,2,4,5] [0,1,4] [roB cl b,p8 0,p8 1,p64 4] [b8 h,b8 zF,b64 kF] (zxD cl h b _) ⟨YX,xu (by decide),xu (by decide),vQ (by decide),trivial⟩ ⟨⟨by decide,xV⟩,⟨by decide,xV⟩,⟨by decide,z6 zCW (zx0 _)⟩,trivial⟩ fun hkb=>?_
 refine WR.seq' (by kernel_rfl) ?_
 refine WR.then jB hN (by kernel_rfl) hkb [1,2,4,5,7] MZ [roB cl b,p8 0,p8 1,p64 4,p64 6] (yi h zF kF (R.wS b 0)) (zxE cl h b _ _) ⟨YX,xu (by decide),xu (by decide),vQ (by decide),vQ (by decide),trivial⟩ (ww _ _ _ _) fun hkb=>?_
 refine WR.seq' (by kernel_rfl) ?_
 refine WR.seq' (by kernel_rfl) ?_
 refine WR.then jB hN (by kernel_rfl) hkb M1 MZ (qV cl b 0) (yi h zF kF (R.wS b 0)) (zxF cl h b _ _ _) (JZ cl b 0) (ww _ _ _ _) fun hkb=>?_
 refine WR.block' (i:=0) (by kernel_rfl) ?_
 refine WR.loopN jB hN (by kernel_rfl) hkb (by kernel_rfl) 7 64 M1 MZ (qV cl b) (fun t=>yi h zF kF (R.wS b t)) (JZ cl b 0) (ww _ _ _ _)
  (fun t=>qV cl b (t + 1)) (fun t=>[some (b8 h),some (b8 zF),some (b64 kF),some ⟨.box 329,.arr 64 .sc,V.set [.idx t] (wV .u32 (wx b (R.wS b t) t)) (zD .u32 64 (R.wS b t))⟩]) (fun _=>7)
  (fun t ht=>⟨zx1 cl b t ht h zF kF _,Nat.le_refl _,JZ cl b (t + 1),⟨by decide,xV⟩,⟨by decide,xV⟩,⟨by decide,wv⟩,⟨by decide,z6 (by rw[zrL]; exact Xb) jM⟩,trivial⟩)
  [2,4,5,7] MZ (e:=.exit 0) (by intro h; cases h) (zf3 cl h b _ _ _) (Nat.le_refl _) fun tm' zm' h1 h2 hk=>?_
 refine jS jB [2,4,5,7] MZ [p8 0,p8 1,p64 4,p64 6] (yi h zF kF (R.sched b)) tm' zm' h1 h2 hk ⟨xu (by decide),xu (by decide),vQ (by decide),vQ (by decide),trivial⟩ ⟨⟨by decide,xV⟩,⟨by decide,xV⟩,⟨by decide,wv⟩,⟨by decide,z6 (qb fun i hi=>R.wS_sched b i hi) (z7 _ _ _ _)⟩,trivial⟩ fun hkb=>?_
 refine WR.seq' (by kernel_rfl) ?_
 refine WR.then jB hN (by kernel_rfl) hkb [2,4,5,7,13,14,15,16,17,18,19,20] MZ [p8 0,p8 1,p64 4,p64 6,wV .u32 (S.stOf h).a,wV .u32 (S.stOf h).b,wV .u32 (S.stOf h).c,wV .u32 (S.stOf h).d,wV .u32 (S.stOf h).e,wV .u32 (S.stOf h).f,wV .u32 (S.stOf h).g,wV .u32 (S.stOf h).h] (yi h zF kF (R.sched b)) (zxG h _ _ _)
  ⟨xu (by decide),xu (by decide),vQ (by decide),vQ (by decide),xW,xW,xW,xW,xW,xW,xW,xW,trivial⟩ (ww _ _ _ _) fun hkb=>?_
 refine WR.seq' (by kernel_rfl) ?_
 refine WR.seq' (by kernel_rfl) ?_
 refine WR.then jB hN (by kernel_rfl) hkb M2 MZ (wC (R.rounds (R.sched b) (S.stOf h) 0) 0) (yi h zF kF (R.sched b)) (zxH h _ _ _ (S.stOf h)) (Xf _ 0) (ww _ _ _ _) fun hkb=>?_
 refine WR.block' (i:=2) (by kernel_rfl) ?_
 refine WR.loopN jB hN (by kernel_rfl) hkb (by kernel_rfl) 7 64 M2 MZ (fun t=>wC (R.rounds (R.sched b) (S.stOf h) t) t) (fun t=>yi h zF kF (R.sched b)) (Xf _ 0) (ww _ _ _ _)
  (fun t=>wC (R.rnd (kF t) (R.sched b t) (R.rounds (R.sched b) (S.stOf h) t)) (t + 1)) (fun t=>[some (b8 h),some (b8 zF),some (b64 kF),some (b64 (R.sched b))]) (fun _=>7)
  (fun t ht=>⟨zCH t ht h zF kF _ _,Nat.le_refl _,Xf _ (t + 1),ww _ _ _ _⟩)
  M2 [0,1] (e:=.exit 2) (by intro h; cases h) (zf4 h _ _ _ _) (Nat.le_refl _) fun tm' zm' h1 h2 hk=>?_
 refine jS jB M2 [0,1] (wC (R.rounds (R.sched b) (S.stOf h) 64) 64) [b8 h,b8 zF] tm' zm' h1 h2 hk (Xf _ 64) ⟨⟨by decide,xV⟩,⟨by decide,xV⟩,trivial⟩ fun hkb=>?_
 refine WR.run jB (u:=true) (n:=1000000) ?_ (xG hN (by kernel_rfl)) hkb
 refine Eq.mpr (zxI h zF (R.rounds (R.sched b) (S.stOf h) 64) (ztP znM [.arr 8 f,.ro u cl .sc 64 g])) ?_
 refine⟨?_,fun _=>zf7 _ _ _ _ _ _ _ _⟩
 have hle:=zf6 h (R.rounds (R.sched b) (S.stOf h) 64)
 rw[show (znM.res [.arr 8 f,.ro u cl .sc 64 g])=zD .u32 8 (R.comp (fun i=>xp (f i)) fun i=>xp (g i)) from rfl,hhd,hbd]
 exact hle
end
end Go.Y
