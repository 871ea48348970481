/- The program of the seat: its pieces. No condition. Numbers of so many bits; the digest's compression: what is computed. No condition. The digest's schedule. No condition. The digest's schedule: the contract. No condition. The digest's compression. No condition. The digest's compression: the contract. No condition. -/
import Derived.Test.YtfpmealbbibhpaaGreatDoorYL1
import Derived.Test.YtfpmealbbibhpaaGreatDoorY6
set_option linter.unusedVariables false
namespace Go.Y
open Go.Ab Go.RowKit Go.Proofs
noncomputable def fnOf (f:FuncId):Func:=match Tryz.prog.funcs[f]? with
  | some fn=>fn
  | none=>default
noncomputable def codeOf (f:FuncId):Code:=match (fnOf f).body with
  | some c=>c
  | none=>.skip
noncomputable def resOf (f:FuncId):List ResultVar:=(fnOf f).results.toList
noncomputable def runL (ct:CTab) (u:Bool) (c:Code) (tm:Tm) (zm:Zm) (nx:Nat) (K:K3):Prop:=run Tryz.prog GL ct u 1000000 c tm zm nx K
noncomputable def shL (t:TypeId):Shape:=shp Tryz.prog 12 t
def wV (k:IntKind) (a:Nat):V:=.int k (Int.ofNat a)
end Go.Y
namespace Go.Y.S
open Go.Ab
def m32:Nat:=4294967296
def m64:Nat:=18446744073709551616
def add32 (a b:Nat):Nat:=(a + b) % 4294967296
def xor32 (a b:Nat):Nat:=(a ^^^ b) % 4294967296
def and32 (a b:Nat):Nat:=(a &&& b) % 4294967296
def or32 (a b:Nat):Nat:=(a ||| b) % 4294967296
def not32 (a:Nat):Nat:=(4294967295 ^^^ a) % 4294967296
def shl32 (a k:Nat):Nat:=(a * k) % 4294967296
def shr32 (a k:Nat):Nat:=a / k
def or64 (a b:Nat):Nat:=(a ||| b) % 18446744073709551616
def shl64 (a k:Nat):Nat:=(a * k) % 18446744073709551616
def to64 (a:Nat):Nat:=a % 18446744073709551616
def to32 (a:Nat):Nat:=a % 4294967296
def rot (a l r:Nat):Nat:=or32 (shl32 a l) (shr32 a r)
def load32 (b:Nat→Nat) (t:Nat):Nat :=
  to32 (or64 (shl64 (or64 (shl64 (or64 (shl64 (or64 0 (to64 (b (4 * t)))) 256) (to64 (b (4 * t + 1)))) 256) (to64 (b (4 * t + 2)))) 256) (to64 (b (4 * t + 3))))
def sg0 (x:Nat):Nat:=xor32 (xor32 (rot x 33554432 128) (rot x 16384 262144)) (shr32 x 8)
def sg1 (y:Nat):Nat:=xor32 (xor32 (rot y 32768 131072) (rot y 8192 524288)) (shr32 y 1024)
def nextW (w15 w2 w7 w16:Nat):Nat:=add32 (add32 (add32 (sg1 w2) w7) (sg0 w15)) w16
section
variable (ld:Nat→Nat) (nw:Nat→Nat→Nat→Nat→Nat)
def gS:Nat→Nat→Nat
  | 0=>fun _=>0
  | t + 1=>fun j=>bif j==t then (bif decide (t < 16) then ld t else nw (gS t (t - 15)) (gS t (t - 2)) (gS t (t - 7)) (gS t (t - 16))) else gS t j
def gL:Nat→List Nat
  | 0=>[]
  | t + 1=>(bif decide (t < 16) then ld t else nw ((gL t).getD 14 0) ((gL t).getD 1 0) ((gL t).getD 6 0) ((gL t).getD 15 0))::gL t
theorem gS_gL:∀ t j,j < t→gS ld nw t j=(gL ld nw t).getD (t - 1 - j) 0
  | 0,j,h=>by omega
  | t + 1,j,h=>by
    have ih:=gS_gL t
    by_cases hj:j=t
    · subst hj
      simp only[gS,beq_self_eq_true,cond_true]
      rw[show j + 1 - 1 - j=0 by omega]
      simp only[gL,List.getD_cons_zero]
      by_cases h16:j < 16
      · rw[show decide (j < 16)=true by simpa using h16,cond_true,cond_true]
      · rw[show decide (j < 16)=false by simpa using h16,cond_false,cond_false,ih (j - 15) (by omega),ih (j - 2) (by omega),ih (j - 7) (by omega),ih (j - 16) (by omega)]
        rw[show j - 1 - (j - 15)=14 by omega,show j - 1 - (j - 2)=1 by omega,show j - 1 - (j - 7)=6 by omega,show j - 1 - (j - 16)=15 by omega]
    · simp only[gS]
      rw[show (j==t)=false by simpa using hj,cond_false,ih j (by omega)]
      simp only[gL]
      rw[show t + 1 - 1 - j=(t - 1 - j) + 1 by omega,List.getD_cons_succ]
end
def wS (b:Nat→Nat):Nat→Nat→Nat:=gS (load32 b) nextW
def sched (b:Nat→Nat) (j:Nat):Nat:=(gL (load32 b) nextW 64).getD (63 - j) 0
theorem wS_sched (b:Nat→Nat) (j:Nat) (h:j < 64):wS b 64 j=sched b j:=gS_gL _ _ 64 j h
theorem wS_zero (b:Nat→Nat):wS b 0=fun _=>0:=rfl
theorem wS_lo (b:Nat→Nat) (t:Nat) (h:t < 16):wS b (t + 1)=fun j=>bif j==t then load32 b t else wS b t j:=by
  funext j
  simp only[wS,gS]
  rw[show decide (t < 16)=true by simpa using h,cond_true]
theorem wS_hi (b:Nat→Nat) (t:Nat) (h:16≤t):wS b (t + 1)=fun j=>bif j==t then nextW (wS b t (t - 15)) (wS b t (t - 2)) (wS b t (t - 7)) (wS b t (t - 16)) else wS b t j:=by
  funext j
  simp only[wS,gS]
  rw[show decide (t < 16)=false by simpa using h,cond_false]
structure St where
  a:Nat
  b:Nat
  c:Nat
  d:Nat
  e:Nat
  f:Nat
  g:Nat
  h:Nat
def big1 (e:Nat):Nat:=xor32 (xor32 (rot e 67108864 64) (rot e 2097152 2048)) (rot e 128 33554432)
def big0 (a:Nat):Nat:=xor32 (xor32 (rot a 1073741824 4) (rot a 524288 8192)) (rot a 1024 4194304)
def ch (e f g:Nat):Nat:=xor32 (and32 e f) (and32 (not32 e) g)
def maj (a b c:Nat):Nat:=xor32 (xor32 (and32 a b) (and32 a c)) (and32 b c)
def t1 (s:St) (k w:Nat):Nat:=add32 (add32 (add32 (add32 s.h (big1 s.e)) (ch s.e s.f s.g)) k) w
def t2 (s:St):Nat:=add32 (big0 s.a) (maj s.a s.b s.c)
def rnd (k w:Nat) (s:St):St:=⟨add32 (t1 s k w) (t2 s),s.a,s.b,s.c,add32 s.d (t1 s k w),s.e,s.f,s.g⟩
def rounds (w:Nat→Nat) (s:St):Nat→St
  | 0=>s
  | t + 1=>rnd (constL.getD t 0) (w t) (rounds w s t)
def St.get (s:St) (j:Nat):Nat:=[s.a,s.b,s.c,s.d,s.e,s.f,s.g,s.h].getD j 0
def stOf (h:Nat→Nat):St:=⟨h 0,h 1,h 2,h 3,h 4,h 5,h 6,h 7⟩
def comp (h b:Nat→Nat) (j:Nat):Nat:=add32 (h j) ((rounds (sched b) (stOf h) 64).get j)
end Go.Y.S
namespace Go.Y.S
def accS (h x:Nat→Nat):Nat→Nat→Nat
  | 0=>h
  | t + 1=>fun j=>bif j==t then add32 (accS h x t t) (x t) else accS h x t j
theorem accS_ge (h x:Nat→Nat):∀ t j,t≤j→accS h x t j=h j
  | 0,j,_=>rfl
  | t + 1,j,hj=>by
    simp only[accS]
    rw[show (j==t)=false by simp; omega,cond_false,accS_ge h x t j (by omega)]
theorem accS_lt (h x:Nat→Nat):∀ t j,j < t→accS h x t j=add32 (h j) (x j)
  | 0,j,hj=>by omega
  | t + 1,j,hj=>by
    simp only[accS]
    by_cases e:j=t
    · subst e
      rw[show (j==j)=true by simp,cond_true,accS_ge h x j j (Nat.le_refl _)]
    · rw[show (j==t)=false by simpa using e,cond_false,accS_lt h x t j (by omega)]
end Go.Y.S
namespace Go.Y.R
open Go.Y.S
def add64 (a b:Nat):Nat:=(a + b) % 18446744073709551616
def rot (a l r:Nat):Nat:=or32 (shr32 a r) (shl32 a l)
def load32 (b:Nat→Nat) (t:Nat):Nat :=
  to32 (add64 (shl64 (add64 (shl64 (add64 (shl64 (add64 (shl64 0 256) (to64 (b (4 * t)))) 256) (to64 (b (4 * t + 1)))) 256) (to64 (b (4 * t + 2)))) 256) (to64 (b (4 * t + 3))))
def sg0 (x:Nat):Nat:=xor32 (xor32 (rot x 33554432 128) (rot x 16384 262144)) (shr32 x 8)
def sg1 (y:Nat):Nat:=xor32 (xor32 (rot y 32768 131072) (rot y 8192 524288)) (shr32 y 1024)
def nextW (w15 w2 w7 w16:Nat):Nat:=add32 (add32 (add32 w16 w7) (sg0 w15)) (sg1 w2)
def wS (b:Nat→Nat):Nat→Nat→Nat:=gS (load32 b) nextW
def sched (b:Nat→Nat) (j:Nat):Nat:=(gL (load32 b) nextW 64).getD (63 - j) 0
theorem wS_sched (b:Nat→Nat) (j:Nat) (h:j < 64):wS b 64 j=sched b j:=gS_gL _ _ 64 j h
theorem wS_zero (b:Nat→Nat):wS b 0=fun _=>0:=rfl
theorem wS_lo (b:Nat→Nat) (t:Nat) (h:t < 16):wS b (t + 1)=fun j=>bif j==t then load32 b t else wS b t j:=by
  funext j
  simp only[wS,gS]
  rw[show decide (t < 16)=true by simpa using h,cond_true]
theorem wS_hi (b:Nat→Nat) (t:Nat) (h:16≤t):wS b (t + 1)=fun j=>bif j==t then nextW (wS b t (t - 15)) (wS b t (t - 2)) (wS b t (t - 7)) (wS b t (t - 16)) else wS b t j:=by
  funext j
  simp only[wS,gS]
  rw[show decide (t < 16)=false by simpa using h,cond_false]
def big1 (e:Nat):Nat:=xor32 (xor32 (rot e 67108864 64) (rot e 2097152 2048)) (rot e 128 33554432)
def big0 (a:Nat):Nat:=xor32 (xor32 (rot a 1073741824 4) (rot a 524288 8192)) (rot a 1024 4194304)
def ch (e f g:Nat):Nat:=or32 (and32 e f) (and32 (not32 e) g)
def maj (a b c:Nat):Nat:=or32 (or32 (and32 a b) (and32 a c)) (and32 b c)
def t1 (s:St) (k w:Nat):Nat:=add32 (add32 (add32 (add32 s.h (big1 s.e)) (ch s.e s.f s.g)) k) w
def t2 (s:St):Nat:=add32 (big0 s.a) (maj s.a s.b s.c)
def rnd (k w:Nat) (s:St):St:=⟨add32 (t1 s k w) (t2 s),s.a,s.b,s.c,add32 s.d (t1 s k w),s.e,s.f,s.g⟩
def rounds (w:Nat→Nat) (s:St):Nat→St
  | 0=>s
  | t + 1=>rnd (constL.getD t 0) (w t) (rounds w s t)
def comp (h b:Nat→Nat) (j:Nat):Nat:=add32 (h j) ((rounds (sched b) (stOf h) 64).get j)
end Go.Y.R
set_option linter.unusedSimpArgs false
set_option maxRecDepth 100000
namespace Go.Y
open Go.Ab Go.RowKit Go.Proofs
noncomputable section
noncomputable def ct0:CTab:=fun _=>none
theorem ct0_ok:CTG Tryz.prog ct0:=fun f c h=>by cases h
theorem env0:Env Tryz.prog ct0:=envL ct0_ok
def allP (P:Nat→Prop):Nat→Prop
  | 0=>True
  | n + 1=>allP P n∧P n
theorem lt_all {P:Nat→Prop}:∀ {n:Nat},allP P n→∀ t,t < n→P t
  | 0,_,t,h=>by omega
  | n + 1,h,t,ht=>by
    rcases Nat.lt_or_ge t n with h1 | h1
    · exact lt_all h.1 t h1
    · obtain rfl:t=n:=by omega
      exact h.2
def isW (k:IntKind) (v:V):Bool:=match v with
  | .int k' (.ofNat _)=>ikEq k' k
  | _=>false
def natOf (v:V):Nat:=match v with
  | .int _ (.ofNat n)=>n
  | _=>0
theorem isW_eq {k:IntKind}{v:V}(h:isW k v=true):v=wV k (natOf v):=by
  unfold isW at h
  split at h
  · obtain rfl:=ikEq_eq h; rfl
  · cases h
def allW (k:IntKind) (n:Nat) (f:Nat→V):Bool:=(List.range n).all fun i=>isW k (f i)
def arrW (k:IntKind) (n:Nat) (f:Nat→Nat):V:=.arr n fun i=>wV k (f i)
theorem allW_le {k:IntKind}{n:Nat}{f:Nat→V}(h:allW k n f=true):(V.arr n f).le (arrW k n fun i=>natOf (f i)):=by
  refine⟨rfl,fun i hi=>?_⟩
  have:=isW_eq (List.all_eq_true.1 h i (List.mem_range.2 hi))
  show (f i).le (wV k (natOf (f i)))
  rw[←this]; exact V.le_refl _
theorem arrW_bel (m:Nat) (k:IntKind) (n:Nat) (f:Nat→Nat):(arrW k n f).bel m:=fun i _=>trivial
theorem allW_bel {m:Nat}{k:IntKind}{n:Nat}{f:Nat→V}(h:allW k n f=true):(V.arr n f).bel m:=fun i hi=>by
  rw[isW_eq (List.all_eq_true.1 h i (List.mem_range.2 hi))]; trivial
theorem arrW_congr {k:IntKind}{n:Nat}{f g:Nat→Nat}(h:∀ i,i < n→f i=g i):(arrW k n f).le (arrW k n g):=⟨rfl,fun i hi=>by show (wV k (f i)).le (wV k (g i)); rw[h i hi]; exact V.le_refl _⟩
theorem arrW_set {k:IntKind}{n t a:Nat}{f:Nat→Nat}:(V.set [.idx t] (wV k a) (arrW k n f)).le (arrW k n fun j=>bif j==t then a else f j):=by
  refine⟨rfl,fun i hi=>?_⟩
  show (V.ite (i==t) (wV k a) (wV k (f i))).le (wV k (bif i==t then a else f i))
  rw[V.ite_eq]
  cases i==t<;>exact V.le_refl _
theorem arrW_set_bel {m:Nat}{k:IntKind}{n t a:Nat}{f:Nat→Nat}:(V.set [.idx t] (wV k a) (arrW k n f)).bel m:=by
  intro i hi
  show (V.ite (i==t) (wV k a) (wV k (f i))).bel m
  rw[V.ite_eq]
  cases i==t<;>trivial
def c261:Code:=codeOf 304
def c261a:Code:=cBdy (cBdy (cSnd (cFst (cSnd c261))))
def c261b:Code:=cBdy (cBdy (cSnd (cFst (cSnd (cSnd c261)))))
def T261a (t:Nat):Tm:=mkT [1,2,9] [.ptr 0 [] (.arr 64 .sc),.ptr 1 [] (.arr 64 .sc),wV .i64 t]
def T261b (t:Nat):Tm:=mkT [1,2,4] [.ptr 0 [] (.arr 64 .sc),.ptr 1 [] (.arr 64 .sc),wV .i64 t]
def Z261 (b w:Nat→Nat):Zm:=mkZ [0,1] [⟨.box 356,.arr 64 .sc,arrW .u8 64 b⟩,⟨.box 405,.arr 64 .sc,arrW .u32 64 w⟩]
def Ps261a (t:Nat):Prop:=∀(b w:Nat→Nat) (Q:Q4),runL ct0 true c261a (T261a t) (Z261 b w) 2 (outK [1,2,9] [0,1] Q)=Q .normal [.ptr 0 [] (.arr 64 .sc),.ptr 1 [] (.arr 64 .sc),wV .i64 (t + 1)] [some ⟨.box 356,.arr 64 .sc,arrW .u8 64 b⟩,some ⟨.box 405,.arr 64 .sc,V.set [.idx t] (wV .u32 (S.load32 b t)) (arrW .u32 64 w)⟩] 2
theorem s261a_0:Ps261a 0:=fun b w Q=>by kernel_rfl
theorem s261a_1:Ps261a 1:=fun b w Q=>by kernel_rfl
theorem s261a_2:Ps261a 2:=fun b w Q=>by kernel_rfl
theorem s261a_3:Ps261a 3:=fun b w Q=>by kernel_rfl
theorem s261a_4:Ps261a 4:=fun b w Q=>by kernel_rfl
theorem s261a_5:Ps261a 5:=fun b w Q=>by kernel_rfl
theorem s261a_6:Ps261a 6:=fun b w Q=>by kernel_rfl
theorem s261a_7:Ps261a 7:=fun b w Q=>by kernel_rfl
theorem s261a_8:Ps261a 8:=fun b w Q=>by kernel_rfl
theorem s261a_9:Ps261a 9:=fun b w Q=>by kernel_rfl
theorem s261a_10:Ps261a 10:=fun b w Q=>by kernel_rfl
theorem s261a_11:Ps261a 11:=fun b w Q=>by kernel_rfl
theorem s261a_12:Ps261a 12:=fun b w Q=>by kernel_rfl
theorem s261a_13:Ps261a 13:=fun b w Q=>by kernel_rfl
theorem s261a_14:Ps261a 14:=fun b w Q=>by kernel_rfl
theorem s261a_15:Ps261a 15:=fun b w Q=>by kernel_rfl
theorem s261a:∀ t,t < 16→Ps261a t:=by
  intro t h2
  exact lt_all (P:=Ps261a) (n:=16) (⟨⟨⟨⟨⟨⟨⟨⟨⟨⟨⟨⟨⟨⟨⟨⟨trivial,s261a_0⟩,s261a_1⟩,s261a_2⟩,s261a_3⟩,s261a_4⟩,s261a_5⟩,s261a_6⟩,s261a_7⟩,s261a_8⟩,s261a_9⟩,s261a_10⟩,s261a_11⟩,s261a_12⟩,s261a_13⟩,s261a_14⟩,s261a_15⟩) t h2
def Ps261b (t:Nat):Prop:=∀(b w:Nat→Nat) (Q:Q4),runL ct0 true c261b (T261b t) (Z261 b w) 2 (outK [1,2,4] [0,1] Q)=Q .normal [.ptr 0 [] (.arr 64 .sc),.ptr 1 [] (.arr 64 .sc),wV .i64 (t + 1)] [some ⟨.box 356,.arr 64 .sc,arrW .u8 64 b⟩,some ⟨.box 405,.arr 64 .sc,V.set [.idx t] (wV .u32 (S.nextW (w (t - 15)) (w (t - 2)) (w (t - 7)) (w (t - 16)))) (arrW .u32 64 w)⟩] 2
theorem s261b_16:Ps261b 16:=fun b w Q=>by kernel_rfl
theorem s261b_17:Ps261b 17:=fun b w Q=>by kernel_rfl
theorem s261b_18:Ps261b 18:=fun b w Q=>by kernel_rfl
theorem s261b_19:Ps261b 19:=fun b w Q=>by kernel_rfl
theorem s261b_20:Ps261b 20:=fun b w Q=>by kernel_rfl
theorem s261b_21:Ps261b 21:=fun b w Q=>by kernel_rfl
theorem s261b_22:Ps261b 22:=fun b w Q=>by kernel_rfl
theorem s261b_23:Ps261b 23:=fun b w Q=>by kernel_rfl
theorem s261b_24:Ps261b 24:=fun b w Q=>by kernel_rfl
theorem s261b_25:Ps261b 25:=fun b w Q=>by kernel_rfl
theorem s261b_26:Ps261b 26:=fun b w Q=>by kernel_rfl
theorem s261b_27:Ps261b 27:=fun b w Q=>by kernel_rfl
theorem s261b_28:Ps261b 28:=fun b w Q=>by kernel_rfl
theorem s261b_29:Ps261b 29:=fun b w Q=>by kernel_rfl
theorem s261b_30:Ps261b 30:=fun b w Q=>by kernel_rfl
theorem s261b_31:Ps261b 31:=fun b w Q=>by kernel_rfl
theorem s261b_32:Ps261b 32:=fun b w Q=>by kernel_rfl
theorem s261b_33:Ps261b 33:=fun b w Q=>by kernel_rfl
theorem s261b_34:Ps261b 34:=fun b w Q=>by kernel_rfl
theorem s261b_35:Ps261b 35:=fun b w Q=>by kernel_rfl
theorem s261b_36:Ps261b 36:=fun b w Q=>by kernel_rfl
theorem s261b_37:Ps261b 37:=fun b w Q=>by kernel_rfl
theorem s261b_38:Ps261b 38:=fun b w Q=>by kernel_rfl
theorem s261b_39:Ps261b 39:=fun b w Q=>by kernel_rfl
theorem s261b_40:Ps261b 40:=fun b w Q=>by kernel_rfl
theorem s261b_41:Ps261b 41:=fun b w Q=>by kernel_rfl
theorem s261b_42:Ps261b 42:=fun b w Q=>by kernel_rfl
theorem s261b_43:Ps261b 43:=fun b w Q=>by kernel_rfl
theorem s261b_44:Ps261b 44:=fun b w Q=>by kernel_rfl
theorem s261b_45:Ps261b 45:=fun b w Q=>by kernel_rfl
theorem s261b_46:Ps261b 46:=fun b w Q=>by kernel_rfl
theorem s261b_47:Ps261b 47:=fun b w Q=>by kernel_rfl
theorem s261b_48:Ps261b 48:=fun b w Q=>by kernel_rfl
theorem s261b_49:Ps261b 49:=fun b w Q=>by kernel_rfl
theorem s261b_50:Ps261b 50:=fun b w Q=>by kernel_rfl
theorem s261b_51:Ps261b 51:=fun b w Q=>by kernel_rfl
theorem s261b_52:Ps261b 52:=fun b w Q=>by kernel_rfl
theorem s261b_53:Ps261b 53:=fun b w Q=>by kernel_rfl
theorem s261b_54:Ps261b 54:=fun b w Q=>by kernel_rfl
theorem s261b_55:Ps261b 55:=fun b w Q=>by kernel_rfl
theorem s261b_56:Ps261b 56:=fun b w Q=>by kernel_rfl
theorem s261b_57:Ps261b 57:=fun b w Q=>by kernel_rfl
theorem s261b_58:Ps261b 58:=fun b w Q=>by kernel_rfl
theorem s261b_59:Ps261b 59:=fun b w Q=>by kernel_rfl
theorem s261b_60:Ps261b 60:=fun b w Q=>by kernel_rfl
theorem s261b_61:Ps261b 61:=fun b w Q=>by kernel_rfl
theorem s261b_62:Ps261b 62:=fun b w Q=>by kernel_rfl
theorem s261b_63:Ps261b 63:=fun b w Q=>by kernel_rfl
theorem s261b:∀ t,16≤t→t < 64→Ps261b t:=by
  intro t h1 h2
  obtain⟨d,rfl⟩:∃ d,t=d + 16:=⟨t - 16,by omega⟩
  exact lt_all (P:=fun d=>Ps261b (d + 16)) (n:=48) (⟨⟨⟨⟨⟨⟨⟨⟨⟨⟨⟨⟨⟨⟨⟨⟨⟨⟨⟨⟨⟨⟨⟨⟨⟨⟨⟨⟨⟨⟨⟨⟨⟨⟨⟨⟨⟨⟨⟨⟨⟨⟨⟨⟨⟨⟨⟨⟨trivial,s261b_16⟩,s261b_17⟩,s261b_18⟩,s261b_19⟩,s261b_20⟩,s261b_21⟩,s261b_22⟩,s261b_23⟩,s261b_24⟩,s261b_25⟩,s261b_26⟩,s261b_27⟩,s261b_28⟩,s261b_29⟩,s261b_30⟩,s261b_31⟩,s261b_32⟩,s261b_33⟩,s261b_34⟩,s261b_35⟩,s261b_36⟩,s261b_37⟩,s261b_38⟩,s261b_39⟩,s261b_40⟩,s261b_41⟩,s261b_42⟩,s261b_43⟩,s261b_44⟩,s261b_45⟩,s261b_46⟩,s261b_47⟩,s261b_48⟩,s261b_49⟩,s261b_50⟩,s261b_51⟩,s261b_52⟩,s261b_53⟩,s261b_54⟩,s261b_55⟩,s261b_56⟩,s261b_57⟩,s261b_58⟩,s261b_59⟩,s261b_60⟩,s261b_61⟩,s261b_62⟩,s261b_63⟩) d (by omega)
theorem s261a_out (b w:Nat→Nat) (Q:Q4):runL ct0 true c261a (T261a 16) (Z261 b w) 2 (outK [1,2,9] [0,1] Q)=Q (.exit 0) [.ptr 0 [] (.arr 64 .sc),.ptr 1 [] (.arr 64 .sc),wV .i64 16] [some ⟨.box 356,.arr 64 .sc,arrW .u8 64 b⟩,some ⟨.box 405,.arr 64 .sc,arrW .u32 64 w⟩] 2:=by kernel_rfl
theorem s261b_out (b w:Nat→Nat) (Q:Q4):runL ct0 true c261b (T261b 64) (Z261 b w) 2 (outK [1,2,4] [0,1] Q)=Q (.exit 2) [.ptr 0 [] (.arr 64 .sc),.ptr 1 [] (.arr 64 .sc),wV .i64 64] [some ⟨.box 356,.arr 64 .sc,arrW .u8 64 b⟩,some ⟨.box 405,.arr 64 .sc,arrW .u32 64 w⟩] 2:=by kernel_rfl
end
end Go.Y
set_option maxRecDepth 100000
namespace Go.Y
open Go.Ab Go.RowKit Go.Proofs
noncomputable section
theorem kb_e (n:Nat):KB .e n:=fun id _=>gm_e id
theorem wkz_e (n:Nat) (zm:Zm):WkZ n zm .e:=fun id c h=>by rw[gm_e] at h; cases h
theorem wk_refl_ptr {n id:Nat}{p:List Step}{s:Shape}(h:id < n):wkV n (.ptr id p s) (.ptr id p s):=⟨rfl,h⟩
theorem wk_wV {n:Nat}{k:IntKind}{a:Nat}:wkV n (wV k a) (wV k a):=⟨rfl,trivial⟩
theorem wkB_box {T:TypeId}{n:Nat}{s:Shape}{v w:V}(h:v.le w) (hb:v.bel n):wkB n (some ⟨.box T,s,v⟩) ⟨.box T,s,w⟩:=⟨_,rfl,rfl,rfl,h,hb⟩
theorem arrW_own (k:IntKind) (n:Nat) (f:Nat→Nat):(arrW k n f).own:=fun i _=>trivial
theorem borrow_allW {k:IntKind}{n:Nat}{f:Nat→V}(h:allW k n f=true):(borrow (.arr n f)).le (arrW k n fun i=>natOf (f i))∧∀ m,(borrow (.arr n f)).bel m:=by
  have key:∀ i,i < n→borrow (f i)=wV k (natOf (f i)):=fun i hi=>by
    rw[isW_eq (List.all_eq_true.1 h i (List.mem_range.2 hi))]; rfl
  refine⟨⟨rfl,fun i hi=>?_⟩,fun m i hi=>?_⟩
  · show (borrow (f i)).le (wV k (natOf (f i)))
    rw[key i hi]; exact V.le_refl _
  · show (borrow (f i)).bel m
    rw[key i hi]; trivial
theorem frz_arrW (m:Mem) (k:IntKind) (n:Nat) (f:Nat→Nat):frz m 12 (arrW k n f)=arrW k n f:=rfl
def k261:CSpec where
  pre:=fun l=>match l with
    | [.arr 64 f]=>allW .u8 64 f
    | _=>false
  res:=fun l=>match l with
    | [.arr 64 f]=>arrW .u32 64 (S.sched fun i=>natOf (f i))
    | _=>.unk
  fresh:=true
theorem k261_pre {args:List V}(h:k261.pre args=true):∃ f,args=[.arr 64 f]∧allW .u8 64 f=true:=by
  simp only[k261] at h
  split at h
  · exact⟨_,rfl,h⟩
  · cases h
theorem s261_0 (b:Nat→Nat) (Q:Q4):runL ct0 true (cFst c261) (mkT [0] [arrW .u8 64 b]) .e 0 (outK [1,2] [0,1] Q)=Q .normal [.ptr 0 [] (.arr 64 .sc),.ptr 1 [] (.arr 64 .sc)] [some ⟨.box 356,.arr 64 .sc,arrW .u8 64 b⟩,some ⟨.box 405,.arr 64 .sc,arrW .u32 64 fun _=>0⟩] 2:=by kernel_rfl
theorem s261_1 (b w:Nat→Nat) (Q:Q4):runL ct0 true (cFst (cFst (cSnd c261))) (mkT [1,2] [.ptr 0 [] (.arr 64 .sc),.ptr 1 [] (.arr 64 .sc)]) (Z261 b w) 2 (outK [1,2,9] [0,1] Q)=Q .normal [.ptr 0 [] (.arr 64 .sc),.ptr 1 [] (.arr 64 .sc),wV .i64 0] [some ⟨.box 356,.arr 64 .sc,arrW .u8 64 b⟩,some ⟨.box 405,.arr 64 .sc,arrW .u32 64 w⟩] 2:=by kernel_rfl
theorem s261_2 (b w:Nat→Nat) (Q:Q4):runL ct0 true (cFst (cFst (cSnd (cSnd c261)))) (mkT [1,2] [.ptr 0 [] (.arr 64 .sc),.ptr 1 [] (.arr 64 .sc)]) (Z261 b w) 2 (outK [1,2,4] [0,1] Q)=Q .normal [.ptr 0 [] (.arr 64 .sc),.ptr 1 [] (.arr 64 .sc),wV .i64 16] [some ⟨.box 356,.arr 64 .sc,arrW .u8 64 b⟩,some ⟨.box 405,.arr 64 .sc,arrW .u32 64 w⟩] 2:=by kernel_rfl
theorem s261_3 (b w:Nat→Nat) (Q:V→Prop):runL ct0 true (cSnd (cSnd (cSnd c261))) (mkT [1,2] [.ptr 0 [] (.arr 64 .sc),.ptr 1 [] (.arr 64 .sc)]) (Z261 b w) 2 (retK Tryz.prog (resOf 304) (valK Q))=Q (arrW .u32 64 w):=by kernel_rfl
def ptrs261:List V:=[.ptr 0 [] (.arr 64 .sc),.ptr 1 [] (.arr 64 .sc)]
theorem hN0:∀(c:Code),c=c→True:=fun _ _=>trivial
theorem k261_ok:CSoundG Tryz.prog 304 k261:=by
  refine csound_of env0 (f:=304) (fn:=fnOf 304) (c:=codeOf 304) (by kernel_rfl) (by kernel_rfl) ?_
  intro B N args hp hN
  obtain⟨f,rfl,hf⟩:=k261_pre hp
  generalize hbd:(fun i=>natOf (f i))=b
  have hcode:cOk (fnOf 304).ntmps (codeOf 304)=true:=by kernel_rfl
  have hb:=borrow_allW (k:=.u8) hf
  rw[hbd] at hb
  refine WR.weak env0 (tm1:=mkT [0] [arrW .u8 64 b]) (zm1:=.e) (WkT_mk (lt:=[0]) (vs:=[arrW .u8 64 b]) ⟨⟨hb.1,hb.2 _⟩,trivial⟩) (wkz_e _ _) (kb_e _) ?_
  refine WR.seq' (by kernel_rfl) ?_
  refine WR.then env0 hN (by kernel_rfl) (kb_e _) [1,2] [0,1] ptrs261 [⟨.box 356,.arr 64 .sc,arrW .u8 64 b⟩,⟨.box 405,.arr 64 .sc,arrW .u32 64 (S.wS b 0)⟩] (s261_0 b) ⟨wk_refl_ptr (by decide),wk_refl_ptr (by decide),trivial⟩ ⟨⟨by decide,wkB_box (V.le_refl _) (arrW_bel _ _ _ _)⟩,⟨by decide,wkB_box (V.le_refl _) (arrW_bel _ _ _ _)⟩,trivial⟩ fun hkb=>?_
  refine WR.seq' (by kernel_rfl) ?_
  refine WR.seq' (by kernel_rfl) ?_
  refine WR.then env0 hN (by kernel_rfl) hkb [1,2,9] [0,1] [.ptr 0 [] (.arr 64 .sc),.ptr 1 [] (.arr 64 .sc),wV .i64 0] [⟨.box 356,.arr 64 .sc,arrW .u8 64 b⟩,⟨.box 405,.arr 64 .sc,arrW .u32 64 (S.wS b 0)⟩] (s261_1 b _) ⟨wk_refl_ptr (by decide),wk_refl_ptr (by decide),wk_wV,trivial⟩ ⟨⟨by decide,wkB_box (V.le_refl _) (arrW_bel _ _ _ _)⟩,⟨by decide,wkB_box (V.le_refl _) (arrW_bel _ _ _ _)⟩,trivial⟩ fun hkb=>?_
  refine WR.block' (i:=0) (by kernel_rfl) ?_
  refine WR.loopN env0 hN (by kernel_rfl) hkb (by kernel_rfl) 2 16 [1,2,9] [0,1] (fun t=>[.ptr 0 [] (.arr 64 .sc),.ptr 1 [] (.arr 64 .sc),wV .i64 t]) (fun t=>[⟨.box 356,.arr 64 .sc,arrW .u8 64 b⟩,⟨.box 405,.arr 64 .sc,arrW .u32 64 (S.wS b t)⟩])
    ⟨wk_refl_ptr (by decide),wk_refl_ptr (by decide),wk_wV,trivial⟩ ⟨⟨by decide,wkB_box (V.le_refl _) (arrW_bel _ _ _ _)⟩,⟨by decide,wkB_box (V.le_refl _) (arrW_bel _ _ _ _)⟩,trivial⟩
    (fun t=>[.ptr 0 [] (.arr 64 .sc),.ptr 1 [] (.arr 64 .sc),wV .i64 (t + 1)]) (fun t=>[some ⟨.box 356,.arr 64 .sc,arrW .u8 64 b⟩,some ⟨.box 405,.arr 64 .sc,V.set [.idx t] (wV .u32 (S.load32 b t)) (arrW .u32 64 (S.wS b t))⟩]) (fun _=>2)
    (fun t ht=>⟨s261a t ht b _,Nat.le_refl _,⟨wk_refl_ptr (by decide),wk_refl_ptr (by decide),wk_wV,trivial⟩,⟨by decide,wkB_box (V.le_refl _) (arrW_bel _ _ _ _)⟩,⟨by decide,wkB_box (by rw[S.wS_lo b t ht]; exact arrW_set) arrW_set_bel⟩,trivial⟩)
    [1,2,9] [0,1] (e:=.exit 0) (by intro h; cases h) (s261a_out b _) (Nat.le_refl _) fun tm' zm' h1 h2 hk=>?_
  refine exit_then env0 [1,2,9] [0,1] ptrs261 [⟨.box 356,.arr 64 .sc,arrW .u8 64 b⟩,⟨.box 405,.arr 64 .sc,arrW .u32 64 (S.wS b 16)⟩] tm' zm' h1 h2 hk ⟨wk_refl_ptr (by decide),wk_refl_ptr (by decide),trivial⟩ ⟨⟨by decide,wkB_box (V.le_refl _) (arrW_bel _ _ _ _)⟩,⟨by decide,wkB_box (V.le_refl _) (arrW_bel _ _ _ _)⟩,trivial⟩ fun hkb=>?_
  refine WR.seq' (by kernel_rfl) ?_
  refine WR.seq' (by kernel_rfl) ?_
  refine WR.then env0 hN (by kernel_rfl) hkb [1,2,4] [0,1] [.ptr 0 [] (.arr 64 .sc),.ptr 1 [] (.arr 64 .sc),wV .i64 16] [⟨.box 356,.arr 64 .sc,arrW .u8 64 b⟩,⟨.box 405,.arr 64 .sc,arrW .u32 64 (S.wS b 16)⟩] (s261_2 b _) ⟨wk_refl_ptr (by decide),wk_refl_ptr (by decide),wk_wV,trivial⟩ ⟨⟨by decide,wkB_box (V.le_refl _) (arrW_bel _ _ _ _)⟩,⟨by decide,wkB_box (V.le_refl _) (arrW_bel _ _ _ _)⟩,trivial⟩ fun hkb=>?_
  refine WR.block' (i:=2) (by kernel_rfl) ?_
  refine WR.loopN env0 hN (by kernel_rfl) hkb (by kernel_rfl) 2 48 [1,2,4] [0,1] (fun t=>[.ptr 0 [] (.arr 64 .sc),.ptr 1 [] (.arr 64 .sc),wV .i64 (t + 16)]) (fun t=>[⟨.box 356,.arr 64 .sc,arrW .u8 64 b⟩,⟨.box 405,.arr 64 .sc,arrW .u32 64 (S.wS b (t + 16))⟩])
    ⟨wk_refl_ptr (by decide),wk_refl_ptr (by decide),wk_wV,trivial⟩ ⟨⟨by decide,wkB_box (V.le_refl _) (arrW_bel _ _ _ _)⟩,⟨by decide,wkB_box (V.le_refl _) (arrW_bel _ _ _ _)⟩,trivial⟩
    (fun t=>[.ptr 0 [] (.arr 64 .sc),.ptr 1 [] (.arr 64 .sc),wV .i64 (t + 16 + 1)]) (fun t=>[some ⟨.box 356,.arr 64 .sc,arrW .u8 64 b⟩,some ⟨.box 405,.arr 64 .sc,V.set [.idx (t + 16)] (wV .u32 (S.nextW (S.wS b (t + 16) (t + 16 - 15)) (S.wS b (t + 16) (t + 16 - 2)) (S.wS b (t + 16) (t + 16 - 7)) (S.wS b (t + 16) (t + 16 - 16)))) (arrW .u32 64 (S.wS b (t + 16)))⟩]) (fun _=>2)
    (fun t ht=>⟨s261b (t + 16) (by omega) (by omega) b _,Nat.le_refl _,⟨wk_refl_ptr (by decide),wk_refl_ptr (by decide),by rw[show t + 1 + 16=t + 16 + 1 by omega]; exact wk_wV,trivial⟩,⟨by decide,wkB_box (V.le_refl _) (arrW_bel _ _ _ _)⟩,⟨by decide,wkB_box (by rw[show t + 1 + 16=t + 16 + 1 by omega,S.wS_hi b (t + 16) (by omega)]; exact arrW_set) arrW_set_bel⟩,trivial⟩)
    [1,2,4] [0,1] (e:=.exit 2) (by intro h; cases h) (s261b_out b _) (Nat.le_refl _) fun tm' zm' h1 h2 hk=>?_
  refine exit_then env0 [1,2,4] [0,1] ptrs261 [⟨.box 356,.arr 64 .sc,arrW .u8 64 b⟩,⟨.box 405,.arr 64 .sc,arrW .u32 64 (S.wS b 64)⟩] tm' zm' h1 h2 hk ⟨wk_refl_ptr (by decide),wk_refl_ptr (by decide),trivial⟩ ⟨⟨by decide,wkB_box (V.le_refl _) (arrW_bel _ _ _ _)⟩,⟨by decide,wkB_box (V.le_refl _) (arrW_bel _ _ _ _)⟩,trivial⟩ fun hkb=>?_
  refine WR.run env0 (u:=true) (n:=1000000) ?_ (cOk_mono hN (by kernel_rfl)) hkb
  refine Eq.mpr (s261_3 b (S.wS b 64) (retV k261 [.arr 64 f])) ?_
  refine⟨?_,fun _=>arrW_own _ _ _⟩
  show (arrW .u32 64 (S.wS b 64)).le (arrW .u32 64 (S.sched fun i=>natOf (f i)))
  rw[hbd]
  exact arrW_congr fun i hi=>S.wS_sched b i hi
end
end Go.Y
set_option maxRecDepth 100000
namespace Go.Y
open Go.Ab Go.RowKit Go.Proofs
noncomputable section
def ct1:CTab:=fun f=>bif Nat.beq f 304 then some k261 else none
theorem ct1_ok:CTG Tryz.prog ct1:=fun f c h=>by
  unfold ct1 at h
  cases hf:Nat.beq f 304 with
  | true=>rw[hf] at h; cases h; rw[Nat.eq_of_beq_eq_true hf]; exact k261_ok
  | false=>rw[hf] at h; cases h
theorem env1:Env Tryz.prog ct1:=envL ct1_ok
def c242:Code:=codeOf 273
def c242a:Code:=cBdy (cBdy (cSnd (cFst (cSnd (cSnd (cSnd c242))))))
def c242b:Code:=cBdy (cBdy (cSnd (cFst (cSnd (cSnd (cSnd (cSnd c242)))))))
def p8 (i:Nat):V:=.ptr i [] (.arr 8 .sc)
def p64 (i:Nat):V:=.ptr i [] (.arr 64 .sc)
def b8 (f:Nat→Nat):Blk:=⟨.box 355,.arr 8 .sc,arrW .u32 8 f⟩
def b64 (f:Nat→Nat):Blk:=⟨.box 405,.arr 64 .sc,arrW .u32 64 f⟩
def kK:V:=arrW .u32 64 fun i=>constL.getD i 0
def T242a (t:Nat):List V:=[p8 0,p8 2,p64 3,p8 4,kK,wV .i64 t]
def T242b (t:Nat):List V:=[p8 0,p8 2,p8 4,wV .i64 t]
def Z242 (h z w x:Nat→Nat):List Blk:=[b8 h,b8 z,b64 w,b8 x]
def L1:List Nat:=[2,4,5,6,17,18]
def L2:List Nat:=[2,4,6,99]
def LZ:List Nat:=[0,2,3,4]
def setR (k w:Nat) (s:S.St):V:=bset false (arrW .u32 8 fun _=>0) [(0,wV .u32 (S.add32 (S.t1 s k w) (S.t2 s))),(1,wV .u32 s.a),(2,wV .u32 s.b),(3,wV .u32 s.c),(4,wV .u32 (S.add32 s.d (S.t1 s k w))),(5,wV .u32 s.e),(6,wV .u32 s.f),(7,wV .u32 s.g)]
def Ps242a (t:Nat):Prop:=∀(h z w:Nat→Nat) (s:S.St) (Q:Q4),runL ct1 true c242a (mkT L1 (T242a t)) (mkZ LZ (Z242 h z w s.get)) 5 (outK L1 LZ Q)=Q .normal (T242a (t + 1)) [some (b8 h),some (b8 z),some (b64 w),some ⟨.box 355,.arr 8 .sc,setR (constL.getD t 0) (w t) s⟩] 5
theorem s242a_0:Ps242a 0:=fun h z w s Q=>by kernel_rfl
theorem s242a_1:Ps242a 1:=fun h z w s Q=>by kernel_rfl
theorem s242a_2:Ps242a 2:=fun h z w s Q=>by kernel_rfl
theorem s242a_3:Ps242a 3:=fun h z w s Q=>by kernel_rfl
theorem s242a_4:Ps242a 4:=fun h z w s Q=>by kernel_rfl
theorem s242a_5:Ps242a 5:=fun h z w s Q=>by kernel_rfl
theorem s242a_6:Ps242a 6:=fun h z w s Q=>by kernel_rfl
theorem s242a_7:Ps242a 7:=fun h z w s Q=>by kernel_rfl
theorem s242a_8:Ps242a 8:=fun h z w s Q=>by kernel_rfl
theorem s242a_9:Ps242a 9:=fun h z w s Q=>by kernel_rfl
theorem s242a_10:Ps242a 10:=fun h z w s Q=>by kernel_rfl
theorem s242a_11:Ps242a 11:=fun h z w s Q=>by kernel_rfl
theorem s242a_12:Ps242a 12:=fun h z w s Q=>by kernel_rfl
theorem s242a_13:Ps242a 13:=fun h z w s Q=>by kernel_rfl
theorem s242a_14:Ps242a 14:=fun h z w s Q=>by kernel_rfl
theorem s242a_15:Ps242a 15:=fun h z w s Q=>by kernel_rfl
theorem s242a_16:Ps242a 16:=fun h z w s Q=>by kernel_rfl
theorem s242a_17:Ps242a 17:=fun h z w s Q=>by kernel_rfl
theorem s242a_18:Ps242a 18:=fun h z w s Q=>by kernel_rfl
theorem s242a_19:Ps242a 19:=fun h z w s Q=>by kernel_rfl
theorem s242a_20:Ps242a 20:=fun h z w s Q=>by kernel_rfl
theorem s242a_21:Ps242a 21:=fun h z w s Q=>by kernel_rfl
theorem s242a_22:Ps242a 22:=fun h z w s Q=>by kernel_rfl
theorem s242a_23:Ps242a 23:=fun h z w s Q=>by kernel_rfl
theorem s242a_24:Ps242a 24:=fun h z w s Q=>by kernel_rfl
theorem s242a_25:Ps242a 25:=fun h z w s Q=>by kernel_rfl
theorem s242a_26:Ps242a 26:=fun h z w s Q=>by kernel_rfl
theorem s242a_27:Ps242a 27:=fun h z w s Q=>by kernel_rfl
theorem s242a_28:Ps242a 28:=fun h z w s Q=>by kernel_rfl
theorem s242a_29:Ps242a 29:=fun h z w s Q=>by kernel_rfl
theorem s242a_30:Ps242a 30:=fun h z w s Q=>by kernel_rfl
theorem s242a_31:Ps242a 31:=fun h z w s Q=>by kernel_rfl
theorem s242a_32:Ps242a 32:=fun h z w s Q=>by kernel_rfl
theorem s242a_33:Ps242a 33:=fun h z w s Q=>by kernel_rfl
theorem s242a_34:Ps242a 34:=fun h z w s Q=>by kernel_rfl
theorem s242a_35:Ps242a 35:=fun h z w s Q=>by kernel_rfl
theorem s242a_36:Ps242a 36:=fun h z w s Q=>by kernel_rfl
theorem s242a_37:Ps242a 37:=fun h z w s Q=>by kernel_rfl
theorem s242a_38:Ps242a 38:=fun h z w s Q=>by kernel_rfl
theorem s242a_39:Ps242a 39:=fun h z w s Q=>by kernel_rfl
theorem s242a_40:Ps242a 40:=fun h z w s Q=>by kernel_rfl
theorem s242a_41:Ps242a 41:=fun h z w s Q=>by kernel_rfl
theorem s242a_42:Ps242a 42:=fun h z w s Q=>by kernel_rfl
theorem s242a_43:Ps242a 43:=fun h z w s Q=>by kernel_rfl
theorem s242a_44:Ps242a 44:=fun h z w s Q=>by kernel_rfl
theorem s242a_45:Ps242a 45:=fun h z w s Q=>by kernel_rfl
theorem s242a_46:Ps242a 46:=fun h z w s Q=>by kernel_rfl
theorem s242a_47:Ps242a 47:=fun h z w s Q=>by kernel_rfl
theorem s242a_48:Ps242a 48:=fun h z w s Q=>by kernel_rfl
theorem s242a_49:Ps242a 49:=fun h z w s Q=>by kernel_rfl
theorem s242a_50:Ps242a 50:=fun h z w s Q=>by kernel_rfl
theorem s242a_51:Ps242a 51:=fun h z w s Q=>by kernel_rfl
theorem s242a_52:Ps242a 52:=fun h z w s Q=>by kernel_rfl
theorem s242a_53:Ps242a 53:=fun h z w s Q=>by kernel_rfl
theorem s242a_54:Ps242a 54:=fun h z w s Q=>by kernel_rfl
theorem s242a_55:Ps242a 55:=fun h z w s Q=>by kernel_rfl
theorem s242a_56:Ps242a 56:=fun h z w s Q=>by kernel_rfl
theorem s242a_57:Ps242a 57:=fun h z w s Q=>by kernel_rfl
theorem s242a_58:Ps242a 58:=fun h z w s Q=>by kernel_rfl
theorem s242a_59:Ps242a 59:=fun h z w s Q=>by kernel_rfl
theorem s242a_60:Ps242a 60:=fun h z w s Q=>by kernel_rfl
theorem s242a_61:Ps242a 61:=fun h z w s Q=>by kernel_rfl
theorem s242a_62:Ps242a 62:=fun h z w s Q=>by kernel_rfl
theorem s242a_63:Ps242a 63:=fun h z w s Q=>by kernel_rfl
theorem s242a:∀ t,t < 64→Ps242a t:=by
  intro t h2
  exact lt_all (P:=Ps242a) (n:=64) (⟨⟨⟨⟨⟨⟨⟨⟨⟨⟨⟨⟨⟨⟨⟨⟨⟨⟨⟨⟨⟨⟨⟨⟨⟨⟨⟨⟨⟨⟨⟨⟨⟨⟨⟨⟨⟨⟨⟨⟨⟨⟨⟨⟨⟨⟨⟨⟨⟨⟨⟨⟨⟨⟨⟨⟨⟨⟨⟨⟨⟨⟨⟨⟨trivial,s242a_0⟩,s242a_1⟩,s242a_2⟩,s242a_3⟩,s242a_4⟩,s242a_5⟩,s242a_6⟩,s242a_7⟩,s242a_8⟩,s242a_9⟩,s242a_10⟩,s242a_11⟩,s242a_12⟩,s242a_13⟩,s242a_14⟩,s242a_15⟩,s242a_16⟩,s242a_17⟩,s242a_18⟩,s242a_19⟩,s242a_20⟩,s242a_21⟩,s242a_22⟩,s242a_23⟩,s242a_24⟩,s242a_25⟩,s242a_26⟩,s242a_27⟩,s242a_28⟩,s242a_29⟩,s242a_30⟩,s242a_31⟩,s242a_32⟩,s242a_33⟩,s242a_34⟩,s242a_35⟩,s242a_36⟩,s242a_37⟩,s242a_38⟩,s242a_39⟩,s242a_40⟩,s242a_41⟩,s242a_42⟩,s242a_43⟩,s242a_44⟩,s242a_45⟩,s242a_46⟩,s242a_47⟩,s242a_48⟩,s242a_49⟩,s242a_50⟩,s242a_51⟩,s242a_52⟩,s242a_53⟩,s242a_54⟩,s242a_55⟩,s242a_56⟩,s242a_57⟩,s242a_58⟩,s242a_59⟩,s242a_60⟩,s242a_61⟩,s242a_62⟩,s242a_63⟩) t h2
def Ps242b (t:Nat):Prop:=∀(h z w x:Nat→Nat) (Q:Q4),runL ct1 true c242b (mkT L2 (T242b t)) (mkZ LZ (Z242 h z w x)) 5 (outK L2 LZ Q)=Q .normal (T242b (t + 1)) [some ⟨.box 355,.arr 8 .sc,V.set [.idx t] (wV .u32 (S.add32 (h t) (x t))) (arrW .u32 8 h)⟩,some (b8 z),some (b64 w),some (b8 x)] 5
theorem s242b_0:Ps242b 0:=fun h z w x Q=>by kernel_rfl
theorem s242b_1:Ps242b 1:=fun h z w x Q=>by kernel_rfl
theorem s242b_2:Ps242b 2:=fun h z w x Q=>by kernel_rfl
theorem s242b_3:Ps242b 3:=fun h z w x Q=>by kernel_rfl
theorem s242b_4:Ps242b 4:=fun h z w x Q=>by kernel_rfl
theorem s242b_5:Ps242b 5:=fun h z w x Q=>by kernel_rfl
theorem s242b_6:Ps242b 6:=fun h z w x Q=>by kernel_rfl
theorem s242b_7:Ps242b 7:=fun h z w x Q=>by kernel_rfl
theorem s242b:∀ t,t < 8→Ps242b t:=by
  intro t h2
  exact lt_all (P:=Ps242b) (n:=8) (⟨⟨⟨⟨⟨⟨⟨⟨trivial,s242b_0⟩,s242b_1⟩,s242b_2⟩,s242b_3⟩,s242b_4⟩,s242b_5⟩,s242b_6⟩,s242b_7⟩) t h2
theorem s242_0 (h b:Nat→Nat) (Q:Q4):runL ct1 true (cFst c242) (mkT [0,1] [arrW .u32 8 h,arrW .u8 64 b]) .e 0 (outK [2,3,4] [0,1,2] Q)=Q .normal [p8 0,p64 1,p8 2] [some (b8 h),some ⟨.box 356,.arr 64 .sc,arrW .u8 64 b⟩,some (b8 fun _=>0)] 3:=by kernel_rfl
theorem s242_1 (h b z:Nat→Nat) (Q:Q4):runL ct1 true (cFst (cSnd c242)) (mkT [2,3,4] [p8 0,p64 1,p8 2]) (mkZ [0,1,2] [b8 h,⟨.box 356,.arr 64 .sc,arrW .u8 64 b⟩,b8 z]) 3 (outK [2,4,5] [0,2,3] Q)=cnd (allW .u8 64 fun i=>wV .u8 (b i)) (Q .normal [p8 0,p8 2,p64 3] [some (b8 h),some (b8 z),some (b64 (S.sched b))] 4):=by kernel_rfl
theorem s242_2 (h z w:Nat→Nat) (Q:Q4):runL ct1 true (cFst (cSnd (cSnd c242))) (mkT [2,4,5] [p8 0,p8 2,p64 3]) (mkZ [0,2,3] [b8 h,b8 z,b64 w]) 4 (outK [2,4,5,6] LZ Q)=Q .normal [p8 0,p8 2,p64 3,p8 4] [some (b8 h),some (b8 z),some (b64 w),some (b8 h)] 5:=by kernel_rfl
theorem s242_3 (h z w x:Nat→Nat) (Q:Q4):runL ct1 true (cFst (cFst (cSnd (cSnd (cSnd c242))))) (mkT [2,4,5,6] [p8 0,p8 2,p64 3,p8 4]) (mkZ LZ (Z242 h z w x)) 5 (outK L1 LZ Q)=Q .normal (T242a 0) [some (b8 h),some (b8 z),some (b64 w),some (b8 x)] 5:=by kernel_rfl
theorem s242a_out (h z w x:Nat→Nat) (Q:Q4):runL ct1 true c242a (mkT L1 (T242a 64)) (mkZ LZ (Z242 h z w x)) 5 (outK [2,4,6] LZ Q)=Q (.exit 0) [p8 0,p8 2,p8 4] [some (b8 h),some (b8 z),some (b64 w),some (b8 x)] 5:=by kernel_rfl
theorem s242_4 (h z w x:Nat→Nat) (Q:Q4):runL ct1 true (cFst (cFst (cSnd (cSnd (cSnd (cSnd c242)))))) (mkT [2,4,6] [p8 0,p8 2,p8 4]) (mkZ LZ (Z242 h z w x)) 5 (outK L2 LZ Q)=Q .normal (T242b 0) [some (b8 h),some (b8 z),some (b64 w),some (b8 x)] 5:=by kernel_rfl
theorem s242b_out (h z w x:Nat→Nat) (Q:Q4):runL ct1 true c242b (mkT L2 (T242b 8)) (mkZ LZ (Z242 h z w x)) 5 (outK [2,4] [0,2] Q)=Q (.exit 2) [p8 0,p8 2] [some (b8 h),some (b8 z)] 5:=by kernel_rfl
theorem s242_5 (h z:Nat→Nat) (Q:V→Prop):runL ct1 true (cSnd (cSnd (cSnd (cSnd (cSnd c242))))) (mkT [2,4] [p8 0,p8 2]) (mkZ [0,2] [b8 h,b8 z]) 5 (retK Tryz.prog (resOf 273) (valK Q))=Q (arrW .u32 8 h):=by kernel_rfl
end
end Go.Y
set_option maxRecDepth 100000
namespace Go.Y
open Go.Ab Go.RowKit Go.Proofs
noncomputable section
def k242:CSpec where
  pre:=fun l=>match l with
    | [.arr 8 f,.arr 64 g]=>allW .u32 8 f&&allW .u8 64 g
    | _=>false
  res:=fun l=>match l with
    | [.arr 8 f,.arr 64 g]=>arrW .u32 8 (S.comp (fun i=>natOf (f i)) fun i=>natOf (g i))
    | _=>.unk
  fresh:=true
theorem k242_pre {args:List V}(h:k242.pre args=true):∃ f g,args=[.arr 8 f,.arr 64 g]∧allW .u32 8 f=true∧allW .u8 64 g=true:=by
  simp only[k242] at h
  split at h
  · rw[Bool.and_eq_true] at h; exact⟨_,_,rfl,h.1,h.2⟩
  · cases h
theorem wk_p8 {n i:Nat}(h:i < n):wkV n (p8 i) (p8 i):=⟨rfl,h⟩
theorem wk_p64 {n i:Nat}(h:i < n):wkV n (p64 i) (p64 i):=⟨rfl,h⟩
theorem wk_arrW {n:Nat}{k:IntKind}{m:Nat}{f:Nat→Nat}:wkV n (arrW k m f) (arrW k m f):=⟨V.le_refl _,arrW_bel _ _ _ _⟩
theorem wk_b8 {n:Nat}{f:Nat→Nat}:wkB n (some (b8 f)) (b8 f):=wkB_box (V.le_refl _) (arrW_bel _ _ _ _)
theorem wk_b64 {n:Nat}{f:Nat→Nat}:wkB n (some (b64 f)) (b64 f):=wkB_box (V.le_refl _) (arrW_bel _ _ _ _)
def setR8 (a b c d e f g h:Nat):V:=bset false (arrW .u32 8 fun _=>0) [(0,wV .u32 a),(1,wV .u32 b),(2,wV .u32 c),(3,wV .u32 d),(4,wV .u32 e),(5,wV .u32 f),(6,wV .u32 g),(7,wV .u32 h)]
theorem setR8_le (a b c d e f g h:Nat):(setR8 a b c d e f g h).le (arrW .u32 8 (S.St.mk a b c d e f g h).get):=by
  refine⟨rfl,fun i hi=>?_⟩
  match i,hi with
  | 0,_=>rfl
  | 1,_=>rfl
  | 2,_=>rfl
  | 3,_=>rfl
  | 4,_=>rfl
  | 5,_=>rfl
  | 6,_=>rfl
  | 7,_=>rfl
theorem setR8_bel (m a b c d e f g h:Nat):(setR8 a b c d e f g h).bel m:=by
  intro i hi
  match i,hi with
  | 0,_=>trivial
  | 1,_=>trivial
  | 2,_=>trivial
  | 3,_=>trivial
  | 4,_=>trivial
  | 5,_=>trivial
  | 6,_=>trivial
  | 7,_=>trivial
theorem setR_le (k w:Nat) (s:S.St):(setR k w s).le (arrW .u32 8 (S.rnd k w s).get):=setR8_le (S.add32 (S.t1 s k w) (S.t2 s)) s.a s.b s.c (S.add32 s.d (S.t1 s k w)) s.e s.f s.g
theorem setR_bel (m k w:Nat) (s:S.St):(setR k w s).bel m:=setR8_bel m (S.add32 (S.t1 s k w) (S.t2 s)) s.a s.b s.c (S.add32 s.d (S.t1 s k w)) s.e s.f s.g
theorem wk_T242a (t:Nat):wkVs 5 (T242a t) (T242a t):=⟨wk_p8 (by decide),wk_p8 (by decide),wk_p64 (by decide),wk_p8 (by decide),wk_arrW,wk_wV,trivial⟩
theorem wk_T242b (t:Nat):wkVs 5 (T242b t) (T242b t):=⟨wk_p8 (by decide),wk_p8 (by decide),wk_p8 (by decide),wk_wV,trivial⟩
theorem wk_Z242 (h z w x:Nat→Nat):wkBs 5 LZ [some (b8 h),some (b8 z),some (b64 w),some (b8 x)] (Z242 h z w x):=⟨⟨by decide,wk_b8⟩,⟨by decide,wk_b8⟩,⟨by decide,wk_b64⟩,⟨by decide,wk_b8⟩,trivial⟩
theorem stOf_get (h:Nat→Nat):(arrW .u32 8 h).le (arrW .u32 8 (S.stOf h).get):=arrW_congr fun i hi=>by
  match i,hi with
  | 0,_=>rfl
  | 1,_=>rfl
  | 2,_=>rfl
  | 3,_=>rfl
  | 4,_=>rfl
  | 5,_=>rfl
  | 6,_=>rfl
  | 7,_=>rfl
theorem k242_ok:CSoundG Tryz.prog 273 k242:=by
  refine csound_of env1 (f:=273) (fn:=fnOf 273) (c:=codeOf 273) (by kernel_rfl) (by kernel_rfl) ?_
  intro B N args hp hN
  obtain⟨f,g,rfl,hf,hg⟩:=k242_pre hp
  generalize hhd:(fun i=>natOf (f i))=h
  generalize hbd:(fun i=>natOf (g i))=b
  have hb1:=borrow_allW (k:=.u32) hf
  have hb2:=borrow_allW (k:=.u8) hg
  rw[hhd] at hb1
  rw[hbd] at hb2
  refine WR.weak env1 (tm1:=mkT [0,1] [arrW .u32 8 h,arrW .u8 64 b]) (zm1:=.e) (WkT_mk (lt:=[0,1]) (vs:=[arrW .u32 8 h,arrW .u8 64 b]) ⟨⟨hb1.1,hb1.2 _⟩,⟨hb2.1,hb2.2 _⟩,trivial⟩) (wkz_e _ _) (kb_e _) ?_
  refine WR.seq' (by kernel_rfl) ?_
  refine WR.then env1 hN (by kernel_rfl) (kb_e _) [2,3,4] [0,1,2] [p8 0,p64 1,p8 2] [b8 h,⟨.box 356,.arr 64 .sc,arrW .u8 64 b⟩,b8 fun _=>0] (s242_0 h b) ⟨wk_p8 (by decide),wk_p64 (by decide),wk_p8 (by decide),trivial⟩ ⟨⟨by decide,wk_b8⟩,⟨by decide,wkB_box (V.le_refl _) (arrW_bel _ _ _ _)⟩,⟨by decide,wk_b8⟩,trivial⟩ fun hkb=>?_
  refine WR.seq' (by kernel_rfl) ?_
  have hall:allW .u8 64 (fun i=>wV .u8 (b i))=true:=List.all_eq_true.2 fun i _=>rfl
  refine WR.then env1 hN (by kernel_rfl) hkb [2,4,5] [0,2,3] (vs0:=[p8 0,p8 2,p64 3]) (bs0:=[some (b8 h),some (b8 fun _=>0),some (b64 (S.sched b))]) (nx':=4) (u:=true) (fu:=1000000) [p8 0,p8 2,p64 3] [b8 h,b8 fun _=>0,b64 (S.sched b)] (fun Q=>(s242_1 h b (fun _=>0) Q).trans (by rw[hall]; rfl)) ⟨wk_p8 (by decide),wk_p8 (by decide),wk_p64 (by decide),trivial⟩ ⟨⟨by decide,wk_b8⟩,⟨by decide,wk_b8⟩,⟨by decide,wk_b64⟩,trivial⟩ fun hkb=>?_
  refine WR.seq' (by kernel_rfl) ?_
  refine WR.then env1 hN (by kernel_rfl) hkb [2,4,5,6] LZ [p8 0,p8 2,p64 3,p8 4] (Z242 h (fun _=>0) (S.sched b) (S.stOf h).get) (s242_2 h _ _) ⟨wk_p8 (by decide),wk_p8 (by decide),wk_p64 (by decide),wk_p8 (by decide),trivial⟩ ⟨⟨by decide,wk_b8⟩,⟨by decide,wk_b8⟩,⟨by decide,wk_b64⟩,⟨by decide,wkB_box (stOf_get h) (arrW_bel _ _ _ _)⟩,trivial⟩ fun hkb=>?_
  refine WR.seq' (by kernel_rfl) ?_
  refine WR.seq' (by kernel_rfl) ?_
  refine WR.then env1 hN (by kernel_rfl) hkb L1 LZ (T242a 0) (Z242 h (fun _=>0) (S.sched b) (S.stOf h).get) (s242_3 h _ _ _) (wk_T242a 0) (wk_Z242 _ _ _ _) fun hkb=>?_
  refine WR.block' (i:=0) (by kernel_rfl) ?_
  refine WR.loopN env1 hN (by kernel_rfl) hkb (by kernel_rfl) 5 64 L1 LZ T242a (fun t=>Z242 h (fun _=>0) (S.sched b) (S.rounds (S.sched b) (S.stOf h) t).get)
    (wk_T242a 0) (wk_Z242 _ _ _ _)
    (fun t=>T242a (t + 1)) (fun t=>[some (b8 h),some (b8 fun _=>0),some (b64 (S.sched b)),some ⟨.box 355,.arr 8 .sc,setR (constL.getD t 0) (S.sched b t) (S.rounds (S.sched b) (S.stOf h) t)⟩]) (fun _=>5)
    (fun t ht=>⟨s242a t ht h _ _ _,Nat.le_refl _,wk_T242a (t + 1),⟨by decide,wk_b8⟩,⟨by decide,wk_b8⟩,⟨by decide,wk_b64⟩,⟨by decide,wkB_box (setR_le _ _ _) (setR_bel _ _ _ _)⟩,trivial⟩)
    [2,4,6] LZ (e:=.exit 0) (by intro h; cases h) (s242a_out h _ _ _) (Nat.le_refl _) fun tm' zm' h1 h2 hk=>?_
  refine exit_then env1 [2,4,6] LZ [p8 0,p8 2,p8 4] (Z242 h (fun _=>0) (S.sched b) (S.rounds (S.sched b) (S.stOf h) 64).get) tm' zm' h1 h2 hk ⟨wk_p8 (by decide),wk_p8 (by decide),wk_p8 (by decide),trivial⟩ (wk_Z242 _ _ _ _) fun hkb=>?_
  generalize hxs:(S.rounds (S.sched b) (S.stOf h) 64).get=x at hkb ⊢
  refine WR.seq' (by kernel_rfl) ?_
  refine WR.seq' (by kernel_rfl) ?_
  refine WR.then env1 hN (by kernel_rfl) hkb L2 LZ (T242b 0) (Z242 (S.accS h x 0) (fun _=>0) (S.sched b) x) (s242_4 h _ _ _) (wk_T242b 0) (wk_Z242 _ _ _ _) fun hkb=>?_
  refine WR.block' (i:=2) (by kernel_rfl) ?_
  refine WR.loopN env1 hN (by kernel_rfl) hkb (by kernel_rfl) 5 8 L2 LZ T242b (fun t=>Z242 (S.accS h x t) (fun _=>0) (S.sched b) x)
    (wk_T242b 0) (wk_Z242 _ _ _ _)
    (fun t=>T242b (t + 1)) (fun t=>[some ⟨.box 355,.arr 8 .sc,V.set [.idx t] (wV .u32 (S.add32 (S.accS h x t t) (x t))) (arrW .u32 8 (S.accS h x t))⟩,some (b8 fun _=>0),some (b64 (S.sched b)),some (b8 x)]) (fun _=>5)
    (fun t ht=>⟨s242b t ht _ _ _ _,Nat.le_refl _,wk_T242b (t + 1),⟨by decide,wkB_box arrW_set arrW_set_bel⟩,⟨by decide,wk_b8⟩,⟨by decide,wk_b64⟩,⟨by decide,wk_b8⟩,trivial⟩)
    [2,4] [0,2] (e:=.exit 2) (by intro h; cases h) (s242b_out _ _ _ _) (Nat.le_refl _) fun tm' zm' h1 h2 hk=>?_
  refine exit_then env1 [2,4] [0,2] [p8 0,p8 2] [b8 (S.accS h x 8),b8 fun _=>0] tm' zm' h1 h2 hk ⟨wk_p8 (by decide),wk_p8 (by decide),trivial⟩ ⟨⟨by decide,wk_b8⟩,⟨by decide,wk_b8⟩,trivial⟩ fun hkb=>?_
  refine WR.run env1 (u:=true) (n:=1000000) ?_ (cOk_mono hN (by kernel_rfl)) hkb
  refine Eq.mpr (s242_5 (S.accS h x 8) (fun _=>0) (retV k242 [.arr 8 f,.arr 64 g])) ?_
  refine⟨?_,fun _=>arrW_own _ _ _⟩
  show (arrW .u32 8 (S.accS h x 8)).le (arrW .u32 8 (S.comp (fun i=>natOf (f i)) fun i=>natOf (g i)))
  rw[hhd,hbd]
  refine arrW_congr fun i hi=>?_
  rw[S.accS_lt h x 8 i hi,←hxs]
  rfl
end
end Go.Y
