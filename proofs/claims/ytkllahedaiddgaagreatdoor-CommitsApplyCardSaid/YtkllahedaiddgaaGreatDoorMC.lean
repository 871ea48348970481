/- The program's AES as a contract of the run. No condition. -/
import Derived.Test.YtkllahedaiddgaaGreatDoorMS0
import Derived.Test.YtkllahedaiddgaaGreatDoorMM0
import Derived.Test.YtkllahedaiddgaaGreatDoorAE1
set_option linter.unusedSimpArgs false
set_option linter.unusedVariables false
namespace Go.K
open Go.Ab Go.RowKit Go.Y Go.Proofs
noncomputable section
attribute [local irreducible] zp zo
theorem xY {P:Nat→Prop}{a m:Nat}(h:zy (fun t=>P (a + t)) m) {n:Nat}(h1:a≤n) (h2:n < a + m):P n:=by
 have:=Yh h (n - a) (by omega)
 rwa [show a + (n - a)=n by omega] at this
theorem zh3:∀ n,n < 256→j7 n:=by
 have key:∀ k,k < 8→∀ n,32 * k≤n→n < 32 * k + 32→j7 n
  | 0,_,n,h1,h2=>xY zxg h1 h2
  | 1,_,n,h1,h2=>xY ztv h1 h2
  | 2,_,n,h1,h2=>xY ztw h1 h2
  | 3,_,n,h1,h2=>xY ztx h1 h2
  | 4,_,n,h1,h2=>xY zoz h1 h2
  | 5,_,n,h1,h2=>xY zoA h1 h2
  | 6,_,n,h1,h2=>xY zoB h1 h2
  | 7,_,n,h1,h2=>xY zoC h1 h2
  | k + 8,h,_,_,_=>absurd h (by omega)
 exact fun n h=>key (n / 32) (by omega) n (by omega) (by omega)
theorem zh4:∀ n,n < 1024→j8 n:=by
 have key:∀ k,k < 8→∀ n,128 * k≤n→n < 128 * k + 128→j8 n
  | 0,_,n,h1,h2=>xY zxp h1 h2
  | 1,_,n,h1,h2=>xY zoX h1 h2
  | 2,_,n,h1,h2=>xY zoY h1 h2
  | 3,_,n,h1,h2=>xY zoZ h1 h2
  | 4,_,n,h1,h2=>xY zom h1 h2
  | 5,_,n,h1,h2=>xY zon h1 h2
  | 6,_,n,h1,h2=>xY zoo h1 h2
  | 7,_,n,h1,h2=>xY zop h1 h2
  | k + 8,h,_,_,_=>absurd h (by omega)
 exact fun n h=>key (n / 128) (by omega) n (by omega) (by omega)
theorem zx1 (n:Nat) (h:j7 n):KCS E1.P 311 (xm [.int .u8 (.ofNat n)] (.int .u8 (.ofNat (pkr .u8 sbN n)))):=by
 unfold j7 at h
 exact zfh ok1 h rfl rfl
theorem zx2 (n:Nat) (h:j8 n):KCS E1.P 328 (xm [.int .u8 (.ofNat (n / 256)),.int .u8 (.ofNat (n % 256))] (.int .u8 (.ofNat (pkr .u8 mtN n)))):=by
 unfold j8 at h
 exact zfh ok1 h rfl rfl
theorem yC:KCS E1.P 311 (X8 sbN):=zjD fun n hn=>zx1 n (zh3 n hn)
theorem zh5:KCS E1.P 328 (zlu 4 mtN):=zjE (by decide) fun n hn=>zx2 n (zh4 n hn)
end
end Go.K
namespace Go.K
open Go.Ab Go.RowKit Go.Y Go.Proofs
noncomputable section
attribute [local irreducible] zp zo
theorem zgI {x:KV}{f:Nat→Prop}{a b c:Nat}(h:zW (fun k z=>chk (z8 k .u8) a (@Int.rec (fun _=>Prop) (fun n=>f n) (fun _=>BadN b) z)) (BadN c) x):∃ n,x=.int .u8 (.ofNat n)∧f n:=by
 rcases zt h with ⟨k,z,rfl,h1⟩ | ⟨_,h1⟩
 ·obtain⟨h2,h3⟩:=zf h1
  obtain rfl:=zw h2
  cases z with
  | ofNat n=>exact⟨n,rfl,h3⟩
  | negSucc n=>exact (show BadN _ from h3).elim
 ·exact h1.elim
theorem zkn:KCS Tryz.prog 311 zmX:=by
 refine⟨yC.1,fun l K hs=>?_⟩
 obtain⟨x,rfl,h1⟩:=zcA hs
 obtain⟨n,rfl,h2,h3⟩:=zgI h1
 obtain⟨v,h4,h5⟩:=yC.2 [.int .u8 (.ofNat n)] K (by
  show chk (z8 .u8 .u8) 253 (chk (Nat.blt n 256) 254 (zJ (pkr .u8 sbN n) fun r=>K (.int .u8 (.ofNat r))))
  rw[show Nat.blt n 256=true by rw[Nat.blt_eq]; exact h2,zP]
  exact h3)
 exact⟨v,h4,h5⟩
theorem zko:KCS Tryz.prog 328 zmY:=by
 refine⟨zh5.1,fun l K hs=>?_⟩
 obtain⟨x,y,rfl,h1⟩:=zfi hs
 obtain⟨m,rfl,h2⟩:=zgI h1
 obtain⟨n,rfl,h3⟩:=zgI h2
 obtain⟨h4,h5,h6⟩:=zf h3
 have hm:m < 4:=by rwa [Nat.blt_eq] at h4
 obtain⟨v,h7,h8⟩:=zh5.2 [.int .u8 (.ofNat m),.int .u8 (.ofNat n)] K (by
  show chk (z8 .u8 .u8) 253 (chk (Nat.blt m 256) 254 (chk (z8 .u8 .u8) 253 (chk (Nat.blt n 256) 254 (chk (Nat.blt m 4) 259 (zJ (pkr .u8 mtN (Nat.add (Nat.mul 256 m) n)) fun r=>K (.int .u8 (.ofNat r)))))))
  rw[show Nat.blt n 256=true by rw[Nat.blt_eq]; exact h5,show Nat.blt m 256=true by rw[Nat.blt_eq]; omega,h4,zP]
  exact h6)
 exact⟨v,h7,h8⟩
theorem okS:@KOk gO ES:=@KOk.tab gO EO0 zR _ ⟨zkn.opn,zko.opn,trivial⟩
def za2:zk:=fun l K=>lb2 l fun s b=>Wa (fun n d t=>chk (Nat.beq n 11) 420 (chk (VP (.ar 11 d t) 11) 421 (qA (fun kd m x=>chk (nd (z8 kd .u8) (Nat.beq m 16)) 422 (zqx (.ar 11 d t) x fun z=>K (.pk .u8 16 z))) (BadN 423) b))) (BadN 424) s
theorem zw8:∃ fn,Tryz.prog.funcs[296]?=some fn∧(fn.name == "runtime.NumGoroutine")=false∧fn.body.isNone=false:=⟨Tryz.f296,Tryz.func296,(wj.get Tryz.func296).1,by kernel_rfl⟩
theorem zgJ {a b a' b':V}(h1:Imp a a') (h2:Imp b b'):∀ C m,R C (mkL [a,b]) m→R C (mkL [a',b']) m:=fun C m h=>R.cons_map (fun m h=>h1 C m h) (fun m h=>R.cons_map (fun m h=>h2 C m h) (fun m h=>h) h) h
theorem zgK (k:IntKind) (n x:Nat):xw (KV.pk k n x).v=true:=by
 rw[qC]
 show ((List.range n).all fun i=>xw (.int k (pkg k x i)))=true
 rw[List.all_eq_true]; intro i _; rfl
theorem VD:@KCS gO Tryz.prog 296 za2:=by
 refine @zjJ gO Tryz.prog 296 za2 zw8 fun l K hs=>?_
 obtain⟨s,b,rfl,h1⟩:=zfi hs
 rcases vT h1 with ⟨n,d,t,rfl,h2⟩ | ⟨_,h2⟩
 ·obtain⟨h3,h4⟩:=zf h2
  obtain rfl:=zx h3
  obtain⟨h5,h6⟩:=zf h4
  rcases xk h6 with ⟨kd,m,x,rfl,h7⟩ | ⟨_,h7⟩
  ·obtain⟨h8,h9⟩:=zf h7
   obtain⟨h10,h11⟩:=za.1 h8
   obtain rfl:=zw h10
   obtain rfl:=zx h11
   obtain⟨z,h12,h13⟩:=zqz h9
   refine⟨ES,okS,rfl,200,fun r=>r=VS (C.enc (jc x) (gOf (.ar 11 d t))),_,[zqM (gOf (.ar 11 d t)),VS (jc x)],h12,zgK _ _ _,fun r hr=>by rw[hr]; exact ziq h13,?_,ziI _ _⟩
   exact zgJ (zlc h5) (zad fun i _=>rfl)
  ·exact h7.elim
 ·exact h2.elim
end
end Go.K
