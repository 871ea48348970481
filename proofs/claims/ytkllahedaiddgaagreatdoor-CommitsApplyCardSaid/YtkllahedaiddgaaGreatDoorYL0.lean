/- Numbers of so many bits; the digest's compression: what is computed. No condition. -/
import Derived.Test.YtkllahedaiddgaaGreatDoorY8
import Derived.Test.YtkllahedaiddgaaGreatDoorProg
set_option linter.unusedSimpArgs false
set_option linter.unusedVariables false
namespace Go.Y
open Go.Ab
def vI:List Nat:=[1116352408,1899447441,3049323471,3921009573,961987163,1508970993,2453635748,2870763221,3624381080,310598401,607225278,1426881987,1925078388,2162078206,2614888103,3248222580,3835390401,4022224774,264347078,604807628,770255983,1249150122,1555081692,1996064986,2554220882,2821834349,2952996808,3210313671,3336571891,3584528711,113926993,338241895,666307205,773529912,1294757372,1396182291,1695183700,1986661051,2177026350,2456956037,2730485921,2820302411,3259730800,3345764771,3516065817,3600352804,4094571909,275423344,430227734,506948616,659060556,883997877,958139571,1322822218,1537002063,1747873779,1955562222,2024104815,2227730452,2361852424,2428436474,2756734187,3204031479,3329325298]
def wV (k:IntKind) (a:Nat):V:=.int k (Int.ofNat a)
end Go.Y
namespace Go.Y.S
open Go.Ab
def m32:Nat:=4294967296
def m64:Nat:=18446744073709551616
def add32 (a b:Nat):Nat:=(a + b) % 4294967296
def xor32 (a b:Nat):Nat:=(a ^^^ b) % 4294967296
def and32 (a b:Nat):Nat:=(a &&& b) % 4294967296
def or32 (a b:Nat):Nat:=(a ||| b) % 4294967296
def not32 (a:Nat):Nat:=(4294967295 ^^^ a) % 4294967296
def zmW (a k:Nat):Nat:=(a * k) % 4294967296
def Qd (a k:Nat):Nat:=a / k
def or64 (a b:Nat):Nat:=(a ||| b) % 18446744073709551616
def shl64 (a k:Nat):Nat:=(a * k) % 18446744073709551616
def to64 (a:Nat):Nat:=a % 18446744073709551616
def to32 (a:Nat):Nat:=a % 4294967296
def rot (a l r:Nat):Nat:=or32 (zmW a l) (Qd a r)
def load32 (b:Nat→Nat) (t:Nat):Nat :=
 to32 (or64 (shl64 (or64 (shl64 (or64 (shl64 (or64 0 (to64 (b (4 * t)))) 256) (to64 (b (4 * t + 1)))) 256) (to64 (b (4 * t + 2)))) 256) (to64 (b (4 * t + 3))))
def sg0 (x:Nat):Nat:=xor32 (xor32 (rot x 33554432 128) (rot x 16384 262144)) (Qd x 8)
def sg1 (y:Nat):Nat:=xor32 (xor32 (rot y 32768 131072) (rot y 8192 524288)) (Qd y 1024)
def nextW (w15 w2 w7 w16:Nat):Nat:=add32 (add32 (add32 (sg1 w2) w7) (sg0 w15)) w16
section
variable (ld:Nat→Nat) (nw:Nat→Nat→Nat→Nat→Nat)
def gS:Nat→Nat→Nat
 | 0=>fun _=>0
 | t + 1=>fun j=>bif j==t then (bif decide (t < 16) then ld t else nw (gS t (t - 15)) (gS t (t - 2)) (gS t (t - 7)) (gS t (t - 16))) else gS t j
def gL:Nat→List Nat
 | 0=>[]
 | t + 1=>(bif decide (t < 16) then ld t else nw ((gL t).getD 14 0) ((gL t).getD 1 0) ((gL t).getD 6 0) ((gL t).getD 15 0))::gL t
theorem gS_gL:∀ t j,j < t→gS ld nw t j=(gL ld nw t).getD (t - 1 - j) 0
 | 0,j,h=>by omega
 | t + 1,j,h=>by
  have ih:=gS_gL t
  by_cases hj:j=t
  ·subst hj
   simp only[gS,beq_self_eq_true,cond_true]
   rw[show j + 1 - 1 - j=0 by omega]
   simp only[gL,List.getD_cons_zero]
   by_cases h16:j < 16
   ·rw[show decide (j < 16)=true by simpa using h16,cond_true,cond_true]
   ·rw[show decide (j < 16)=false by simpa using h16,cond_false,cond_false,ih (j - 15) (by omega),ih (j - 2) (by omega),ih (j - 7) (by omega),ih (j - 16) (by omega)]
    rw[show j - 1 - (j - 15)=14 by omega,show j - 1 - (j - 2)=1 by omega,show j - 1 - (j - 7)=6 by omega,show j - 1 - (j - 16)=15 by omega]
  ·simp only[gS]
   rw[show (j==t)=false by simpa using hj,cond_false,ih j (by omega)]
   simp only[gL]
   rw[show t + 1 - 1 - j=(t - 1 - j) + 1 by omega,List.getD_cons_succ]
end
def wS (b:Nat→Nat):Nat→Nat→Nat:=gS (load32 b) nextW
def sched (b:Nat→Nat) (j:Nat):Nat:=(gL (load32 b) nextW 64).getD (63 - j) 0
theorem wS_sched (b:Nat→Nat) (j:Nat) (h:j < 64):wS b 64 j=sched b j:=gS_gL _ _ 64 j h
theorem zli (b:Nat→Nat):wS b 0=fun _=>0:=rfl
theorem wS_lo (b:Nat→Nat) (t:Nat) (h:t < 16):wS b (t + 1)=fun j=>bif j==t then load32 b t else wS b t j:=by
 funext j
 simp only[wS,gS]
 rw[show decide (t < 16)=true by simpa using h,cond_true]
theorem wS_hi (b:Nat→Nat) (t:Nat) (h:16≤t):wS b (t + 1)=fun j=>bif j==t then nextW (wS b t (t - 15)) (wS b t (t - 2)) (wS b t (t - 7)) (wS b t (t - 16)) else wS b t j:=by
 funext j
 simp only[wS,gS]
 rw[show decide (t < 16)=false by simpa using h,cond_false]
structure St where
 a:Nat
 b:Nat
 c:Nat
 d:Nat
 e:Nat
 f:Nat
 g:Nat
 h:Nat
def big1 (e:Nat):Nat:=xor32 (xor32 (rot e 67108864 64) (rot e 2097152 2048)) (rot e 128 33554432)
def big0 (a:Nat):Nat:=xor32 (xor32 (rot a 1073741824 4) (rot a 524288 8192)) (rot a 1024 4194304)
def ch (e f g:Nat):Nat:=xor32 (and32 e f) (and32 (not32 e) g)
def maj (a b c:Nat):Nat:=xor32 (xor32 (and32 a b) (and32 a c)) (and32 b c)
def t1 (s:St) (k w:Nat):Nat:=add32 (add32 (add32 (add32 s.h (big1 s.e)) (ch s.e s.f s.g)) k) w
def t2 (s:St):Nat:=add32 (big0 s.a) (maj s.a s.b s.c)
def rnd (k w:Nat) (s:St):St:=⟨add32 (t1 s k w) (t2 s),s.a,s.b,s.c,add32 s.d (t1 s k w),s.e,s.f,s.g⟩
def rounds (w:Nat→Nat) (s:St):Nat→St
 | 0=>s
 | t + 1=>rnd (vI.getD t 0) (w t) (rounds w s t)
def St.get (s:St) (j:Nat):Nat:=[s.a,s.b,s.c,s.d,s.e,s.f,s.g,s.h].getD j 0
def stOf (h:Nat→Nat):St:=⟨h 0,h 1,h 2,h 3,h 4,h 5,h 6,h 7⟩
def comp (h b:Nat→Nat) (j:Nat):Nat:=add32 (h j) ((rounds (sched b) (stOf h) 64).get j)
end Go.Y.S
namespace Go.Y.S
def accS (h x:Nat→Nat):Nat→Nat→Nat
 | 0=>h
 | t + 1=>fun j=>bif j==t then add32 (accS h x t t) (x t) else accS h x t j
theorem zdO (h x:Nat→Nat):∀ t j,t≤j→accS h x t j=h j
 | 0,j,_=>rfl
 | t + 1,j,hj=>by
  simp only[accS]
  rw[show (j==t)=false by simp; omega,cond_false,zdO h x t j (by omega)]
theorem accS_lt (h x:Nat→Nat):∀ t j,j < t→accS h x t j=add32 (h j) (x j)
 | 0,j,hj=>by omega
 | t + 1,j,hj=>by
  simp only[accS]
  by_cases e:j=t
  ·subst e
   rw[show (j==j)=true by simp,cond_true,zdO h x j j (Nat.le_refl _)]
  ·rw[show (j==t)=false by simpa using e,cond_false,accS_lt h x t j (by omega)]
end Go.Y.S
namespace Go.Y.R
open Go.Y.S
def add64 (a b:Nat):Nat:=(a + b) % 18446744073709551616
def rot (a l r:Nat):Nat:=or32 (Qd a r) (zmW a l)
def load32 (b:Nat→Nat) (t:Nat):Nat :=
 to32 (add64 (shl64 (add64 (shl64 (add64 (shl64 (add64 (shl64 0 256) (to64 (b (4 * t)))) 256) (to64 (b (4 * t + 1)))) 256) (to64 (b (4 * t + 2)))) 256) (to64 (b (4 * t + 3))))
def sg0 (x:Nat):Nat:=xor32 (xor32 (rot x 33554432 128) (rot x 16384 262144)) (Qd x 8)
def sg1 (y:Nat):Nat:=xor32 (xor32 (rot y 32768 131072) (rot y 8192 524288)) (Qd y 1024)
def nextW (w15 w2 w7 w16:Nat):Nat:=add32 (add32 (add32 w16 w7) (sg0 w15)) (sg1 w2)
def wS (b:Nat→Nat):Nat→Nat→Nat:=gS (load32 b) nextW
def sched (b:Nat→Nat) (j:Nat):Nat:=(gL (load32 b) nextW 64).getD (63 - j) 0
theorem wS_sched (b:Nat→Nat) (j:Nat) (h:j < 64):wS b 64 j=sched b j:=gS_gL _ _ 64 j h
theorem zli (b:Nat→Nat):wS b 0=fun _=>0:=rfl
theorem wS_lo (b:Nat→Nat) (t:Nat) (h:t < 16):wS b (t + 1)=fun j=>bif j==t then load32 b t else wS b t j:=by
 funext j
 simp only[wS,gS]
 rw[show decide (t < 16)=true by simpa using h,cond_true]
theorem wS_hi (b:Nat→Nat) (t:Nat) (h:16≤t):wS b (t + 1)=fun j=>bif j==t then nextW (wS b t (t - 15)) (wS b t (t - 2)) (wS b t (t - 7)) (wS b t (t - 16)) else wS b t j:=by
 funext j
 simp only[wS,gS]
 rw[show decide (t < 16)=false by simpa using h,cond_false]
def big1 (e:Nat):Nat:=xor32 (xor32 (rot e 67108864 64) (rot e 2097152 2048)) (rot e 128 33554432)
def big0 (a:Nat):Nat:=xor32 (xor32 (rot a 1073741824 4) (rot a 524288 8192)) (rot a 1024 4194304)
def ch (e f g:Nat):Nat:=or32 (and32 e f) (and32 (not32 e) g)
def maj (a b c:Nat):Nat:=or32 (or32 (and32 a b) (and32 a c)) (and32 b c)
def t1 (s:St) (k w:Nat):Nat:=add32 (add32 (add32 (add32 s.h (big1 s.e)) (ch s.e s.f s.g)) k) w
def t2 (s:St):Nat:=add32 (big0 s.a) (maj s.a s.b s.c)
def rnd (k w:Nat) (s:St):St:=⟨add32 (t1 s k w) (t2 s),s.a,s.b,s.c,add32 s.d (t1 s k w),s.e,s.f,s.g⟩
def rounds (w:Nat→Nat) (s:St):Nat→St
 | 0=>s
 | t + 1=>rnd (vI.getD t 0) (w t) (rounds w s t)
def comp (h b:Nat→Nat) (j:Nat):Nat:=add32 (h j) ((rounds (sched b) (stOf h) 64).get j)
end Go.Y.R
