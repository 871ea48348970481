/- The two compressions are one. No condition. -/
import Derived.Test.YtkllahedaiddgaaGreatDoorYL0
set_option linter.unusedSimpArgs false
set_option linter.unusedVariables false
namespace Go.Y.SR
open Go.Y
theorem jR (a l r:Nat):S.rot a l r=R.rot a l r:=by
 unfold S.rot R.rot S.or32
 rw[Nat.or_comm]
theorem zve (e f g:Nat):S.ch e f g=R.ch e f g:=by
 unfold S.ch R.ch S.xor32 S.or32 S.and32 S.not32
 apply Nat.eq_of_testBit_eq
 intro i
 have h32:(4294967296:Nat)=2 ^ 32:=by decide
 rw[h32]
 simp only[Nat.testBit_mod_two_pow,Nat.testBit_xor,Nat.testBit_or,Nat.testBit_and]
 cases h:decide (i < 32) with
 | false=>simp
 | true =>
  have hb:Nat.testBit 4294967295 i=true:=by
   have:(4294967295:Nat)=2 ^ 32 - 1:=by decide
   rw[this,Nat.testBit_two_pow_sub_one]; exact h
  simp only[hb]
  cases e.testBit i<;>cases f.testBit i<;>cases g.testBit i<;>rfl
theorem zqb (a b c:Nat):S.maj a b c=R.maj a b c:=by
 unfold S.maj R.maj S.xor32 S.or32 S.and32
 apply Nat.eq_of_testBit_eq
 intro i
 have h32:(4294967296:Nat)=2 ^ 32:=by decide
 rw[h32]
 simp only[Nat.testBit_mod_two_pow,Nat.testBit_xor,Nat.testBit_or,Nat.testBit_and]
 cases h:decide (i < 32) with
 | false=>simp
 | true=>cases a.testBit i<;>cases b.testBit i<;>cases c.testBit i<;>rfl
theorem zkW (a:Nat):S.big0 a=R.big0 a:=by unfold S.big0 R.big0; rw[jR,jR,jR]
theorem zkX (a:Nat):S.big1 a=R.big1 a:=by unfold S.big1 R.big1; rw[jR,jR,jR]
theorem zqc (a:Nat):S.sg0 a=R.sg0 a:=by unfold S.sg0 R.sg0; rw[jR,jR]
theorem zqd (a:Nat):S.sg1 a=R.sg1 a:=by unfold S.sg1 R.sg1; rw[jR,jR]
theorem zh8 (a b c d:Nat):S.nextW a b c d=R.nextW a b c d:=by
 unfold S.nextW R.nextW
 rw[zqc,zqd]
 unfold S.add32
 omega
theorem orA {x b:Nat}(hx:x < 16777216) (hb:b < 256):S.or64 (S.shl64 x 256) (S.to64 b)=x * 256 + b:=by
 unfold S.or64 S.shl64 S.to64
 rw[Nat.mod_eq_of_lt (by omega:x * 256 < 18446744073709551616),Nat.mod_eq_of_lt (by omega:b < 18446744073709551616)]
 have h:=Nat.two_pow_add_eq_or_of_lt (i:=8) (b:=b) (by omega) x
 rw[show x * 256=2 ^ 8 * x by omega,←h]
 omega
theorem adA {x b:Nat}(hx:x < 16777216) (hb:b < 256):R.add64 (S.shl64 x 256) (S.to64 b)=x * 256 + b:=by
 unfold R.add64 S.shl64 S.to64
 omega
theorem orZ {b:Nat}(hb:b < 256):S.or64 0 (S.to64 b)=b:=by
 unfold S.or64 S.to64
 rw[Nat.zero_or]; omega
theorem adZ {b:Nat}(hb:b < 256):R.add64 (S.shl64 0 256) (S.to64 b)=b:=by
 unfold R.add64 S.shl64 S.to64; omega
theorem ld4 {a b c d:Nat}(ha:a < 256) (hb:b < 256) (hc:c < 256) (hd:d < 256):S.or64 (S.shl64 (S.or64 (S.shl64 (S.or64 (S.shl64 (S.or64 0 (S.to64 a)) 256) (S.to64 b)) 256) (S.to64 c)) 256) (S.to64 d)=R.add64 (S.shl64 (R.add64 (S.shl64 (R.add64 (S.shl64 (R.add64 (S.shl64 0 256) (S.to64 a)) 256) (S.to64 b)) 256) (S.to64 c)) 256) (S.to64 d):=by
 have e1:S.or64 (S.shl64 a 256) (S.to64 b)=a * 256 + b:=orA (by omega) hb
 have f1:R.add64 (S.shl64 a 256) (S.to64 b)=a * 256 + b:=adA (by omega) hb
 generalize hx:a * 256 + b=x at e1 f1
 have e2:S.or64 (S.shl64 x 256) (S.to64 c)=x * 256 + c:=orA (by omega) hc
 have f2:R.add64 (S.shl64 x 256) (S.to64 c)=x * 256 + c:=adA (by omega) hc
 generalize hy:x * 256 + c=y at e2 f2
 have e3:S.or64 (S.shl64 y 256) (S.to64 d)=y * 256 + d:=orA (by omega) hd
 have f3:R.add64 (S.shl64 y 256) (S.to64 d)=y * 256 + d:=adA (by omega) hd
 rw[orZ ha,adZ ha,e1,f1,e2,f2,e3,f3]
theorem l1 (b:Nat→Nat) (t:Nat):S.load32 b t=S.to32 (S.or64 (S.shl64 (S.or64 (S.shl64 (S.or64 (S.shl64 (S.or64 0 (S.to64 (b (4*t)))) 256) (S.to64 (b (4*t+1)))) 256) (S.to64 (b (4*t+2)))) 256) (S.to64 (b (4*t+3)))):=by unfold S.load32; rfl
theorem l2 (b:Nat→Nat) (t:Nat):R.load32 b t=S.to32 (R.add64 (S.shl64 (R.add64 (S.shl64 (R.add64 (S.shl64 (R.add64 (S.shl64 0 256) (S.to64 (b (4*t)))) 256) (S.to64 (b (4*t+1)))) 256) (S.to64 (b (4*t+2)))) 256) (S.to64 (b (4*t+3)))):=by unfold R.load32; rfl
theorem zkY {b:Nat→Nat}{t:Nat}(h0:b (4 * t) < 256) (h1:b (4 * t + 1) < 256) (h2:b (4 * t + 2) < 256) (h3:b (4 * t + 3) < 256):S.load32 b t=R.load32 b t:=by
 rw[l1,l2,ld4 h0 h1 h2 h3]
theorem gL_congr {ld ld':Nat→Nat}{nw nw':Nat→Nat→Nat→Nat→Nat}(h1:∀ t,t < 16→ld t=ld' t) (h2:∀ a b c d,nw a b c d=nw' a b c d):∀ t,S.gL ld nw t=S.gL ld' nw' t
 | 0=>rfl
 | t + 1=>by
  have ih:=gL_congr h1 h2 t
  show (bif decide (t < 16) then ld t else nw ((S.gL ld nw t).getD 14 0) ((S.gL ld nw t).getD 1 0) ((S.gL ld nw t).getD 6 0) ((S.gL ld nw t).getD 15 0))::S.gL ld nw t=(bif decide (t < 16) then ld' t else nw' ((S.gL ld' nw' t).getD 14 0) ((S.gL ld' nw' t).getD 1 0) ((S.gL ld' nw' t).getD 6 0) ((S.gL ld' nw' t).getD 15 0))::S.gL ld' nw' t
  rw[ih]
  by_cases ht:t < 16
  ·rw[show decide (t < 16)=true by simpa using ht,cond_true,cond_true,h1 t ht]
  ·rw[show decide (t < 16)=false by simpa using ht,cond_false,cond_false,h2]
theorem zvf {b:Nat→Nat}(h:∀ i,i < 64→b i < 256) (t:Nat):S.gL (S.load32 b) S.nextW t=S.gL (R.load32 b) R.nextW t :=
 gL_congr (fun t ht=>zkY (h _ (by omega)) (h _ (by omega)) (h _ (by omega)) (h _ (by omega))) zh8 t
theorem zh9 {b:Nat→Nat}(h:∀ i,i < 64→b i < 256):S.sched b=R.sched b:=by
 funext j
 unfold S.sched R.sched
 rw[zvf h]
theorem zqe (k w:Nat) (s:S.St):S.rnd k w s=R.rnd k w s:=by
 unfold S.rnd R.rnd S.t1 R.t1 S.t2 R.t2
 rw[zkW,zkX,zve,zqb]
theorem Qc (w:Nat→Nat) (s:S.St):∀ t,S.rounds w s t=R.rounds w s t
 | 0=>rfl
 | t + 1=>by
  show S.rnd _ _ (S.rounds w s t)=R.rnd _ _ (R.rounds w s t)
  rw[Qc w s t,zqe]
theorem comp_eq {h b:Nat→Nat}(hb:∀ i,i < 64→b i < 256) (j:Nat):S.comp h b j=R.comp h b j:=by
 unfold S.comp R.comp
 rw[zh9 hb,Qc]
end Go.Y.SR
