/- The program's AES as a contract of the run. No condition. -/
import Derived.Test.YtkllahedaiddgaaGreatDoorMS0
import Derived.Test.YtkllahedaiddgaaGreatDoorMM0
import Derived.Test.YtkllahedaiddgaaGreatDoorAE1
set_option linter.unusedSimpArgs false
set_option linter.unusedVariables false
namespace Go.K
open Go.Ab Go.RowKit Go.Y Go.Proofs
noncomputable section
attribute [local irreducible] zu zn
theorem vD {P:Nat→Prop}{a m:Nat}(h:zL (fun t=>P (a + t)) m) {n:Nat}(h1:a≤n) (h2:n < a + m):P n:=by
 have:=zaL h (n - a) (by omega)
 rwa [show a + (n - a)=n by omega] at this
theorem zlo:∀ n,n < 256→qR n:=by
 have key:∀ k,k < 8→∀ n,32 * k≤n→n < 32 * k + 32→qR n
  | 0,_,n,h1,h2=>vD zEj h1 h2
  | 1,_,n,h1,h2=>vD zAc h1 h2
  | 2,_,n,h1,h2=>vD zAd h1 h2
  | 3,_,n,h1,h2=>vD zAe h1 h2
  | 4,_,n,h1,h2=>vD zu3 h1 h2
  | 5,_,n,h1,h2=>vD zu4 h1 h2
  | 6,_,n,h1,h2=>vD zu5 h1 h2
  | 7,_,n,h1,h2=>vD zu6 h1 h2
  | k + 8,h,_,_,_=>absurd h (by omega)
 exact fun n h=>key (n / 32) (by omega) n (by omega) (by omega)
theorem zlp:∀ n,n < 1024→qS n:=by
 have key:∀ k,k < 8→∀ n,128 * k≤n→n < 128 * k + 128→qS n
  | 0,_,n,h1,h2=>vD zEE h1 h2
  | 1,_,n,h1,h2=>vD zvY h1 h2
  | 2,_,n,h1,h2=>vD zvZ h1 h2
  | 3,_,n,h1,h2=>vD zv0 h1 h2
  | 4,_,n,h1,h2=>vD zuO h1 h2
  | 5,_,n,h1,h2=>vD zuP h1 h2
  | 6,_,n,h1,h2=>vD zuQ h1 h2
  | 7,_,n,h1,h2=>vD zuR h1 h2
  | k + 8,h,_,_,_=>absurd h (by omega)
 exact fun n h=>key (n / 128) (by omega) n (by omega) (by omega)
theorem zFg (n:Nat) (h:qR n):KCS E1.P 311 (xL [.int .u8 (.ofNat n)] (.int .u8 (.ofNat (pkr .u8 sbN n)))):=by
 unfold qR at h
 exact zgX ok1 h rfl rfl
theorem zFh (n:Nat) (h:qS n):KCS E1.P 328 (xL [.int .u8 (.ofNat (n / 256)),.int .u8 (.ofNat (n % 256))] (.int .u8 (.ofNat (pkr .u8 mtN n)))):=by
 unfold qS at h
 exact zgX ok1 h rfl rfl
theorem Zo:KCS E1.P 311 (Ja sbN):=zoR fun n hn=>zFg n (zlo n hn)
theorem zlq:KCS E1.P 328 (zr4 4 mtN):=zoS (by decide) fun n hn=>zFh n (zlp n hn)
end
end Go.K
namespace Go.K
open Go.Ab Go.RowKit Go.Y Go.Proofs
noncomputable section
attribute [local irreducible] zu zn
theorem zik {x:KV}{f:Nat→Prop}{a b c:Nat}(h:xt (fun k z=>chk (xq k .u8) a (@Int.rec (fun _=>Prop) (fun n=>f n) (fun _=>BadN b) z)) (BadN c) x):∃ n,x=.int .u8 (.ofNat n)∧f n:=by
 rcases zI h with ⟨k,z,rfl,h1⟩ | ⟨_,h1⟩
 ·obtain⟨h2,h3⟩:=zd h1
  obtain rfl:=zJ h2
  cases z with
  | ofNat n=>exact⟨n,rfl,h3⟩
  | negSucc n=>exact (show BadN _ from h3).elim
 ·exact h1.elim
theorem zpz:KCS Tryz.prog 311 ztz:=by
 refine⟨Zo.1,fun l K hs=>?_⟩
 obtain⟨x,rfl,h1⟩:=wO hs
 obtain⟨n,rfl,h2,h3⟩:=zik h1
 obtain⟨v,h4,h5⟩:=Zo.2 [.int .u8 (.ofNat n)] K (by
  show chk (xq .u8 .u8) 253 (chk (Nat.blt n 256) 254 (zx (pkr .u8 sbN n) fun r=>K (.int .u8 (.ofNat r))))
  rw[show Nat.blt n 256=true by rw[Nat.blt_eq]; exact h2,zy]
  exact h3)
 exact⟨v,h4,h5⟩
theorem zpA:KCS Tryz.prog 328 ztA:=by
 refine⟨zlq.1,fun l K hs=>?_⟩
 obtain⟨x,y,rfl,h1⟩:=zgY hs
 obtain⟨m,rfl,h2⟩:=zik h1
 obtain⟨n,rfl,h3⟩:=zik h2
 obtain⟨h4,h5,h6⟩:=zd h3
 have hm:m < 4:=by rwa [Nat.blt_eq] at h4
 obtain⟨v,h7,h8⟩:=zlq.2 [.int .u8 (.ofNat m),.int .u8 (.ofNat n)] K (by
  show chk (xq .u8 .u8) 253 (chk (Nat.blt m 256) 254 (chk (xq .u8 .u8) 253 (chk (Nat.blt n 256) 254 (chk (Nat.blt m 4) 259 (zx (pkr .u8 mtN (Nat.add (Nat.mul 256 m) n)) fun r=>K (.int .u8 (.ofNat r)))))))
  rw[show Nat.blt n 256=true by rw[Nat.blt_eq]; exact h5,show Nat.blt m 256=true by rw[Nat.blt_eq]; omega,h4,zy]
  exact h6)
 exact⟨v,h7,h8⟩
theorem okS:@KOk gO ES:=@KOk.tab gO EO0 xA _ ⟨zpz.opn,zpA.opn,trivial⟩
def zck:zg:=fun l K=>lb2 l fun s b=>Yv (fun n d t=>chk (Nat.beq n 11) 420 (chk (JY (.ar 11 d t) 11) 421 (wE (fun kd m x=>chk (nd (xq kd .u8) (Nat.beq m 16)) 422 (zxT (.ar 11 d t) x fun z=>K (.pk .u8 16 z))) (BadN 423) b))) (BadN 424) s
theorem zD8:∃ fn,Tryz.prog.funcs[296]?=some fn∧(fn.name == "runtime.NumGoroutine")=false∧fn.body.isNone=false:=⟨Tryz.f296,Tryz.func296,(yj.get Tryz.func296).1,by kernel_rfl⟩
theorem zil {a b a' b':V}(h1:Imp a a') (h2:Imp b b'):∀ C m,R C (mkL [a,b]) m→R C (mkL [a',b']) m:=fun C m h=>R.cons_map (fun m h=>h1 C m h) (fun m h=>R.cons_map (fun m h=>h2 C m h) (fun m h=>h) h) h
theorem zim (k:IntKind) (n x:Nat):xl (KV.pk k n x).v=true:=by
 rw[wF]
 show ((List.range n).all fun i=>xl (.int k (pkg k x i)))=true
 rw[List.all_eq_true]; intro i _; rfl
theorem JF:@KCS gO Tryz.prog 296 zck:=by
 refine @zhu gO Tryz.prog 296 zck zD8 fun l K hs=>?_
 obtain⟨s,b,rfl,h1⟩:=zgY hs
 rcases js h1 with ⟨n,d,t,rfl,h2⟩ | ⟨_,h2⟩
 ·obtain⟨h3,h4⟩:=zd h2
  obtain rfl:=zO h3
  obtain⟨h5,h6⟩:=zd h4
  rcases xJ h6 with ⟨kd,m,x,rfl,h7⟩ | ⟨_,h7⟩
  ·obtain⟨h8,h9⟩:=zd h7
   obtain⟨h10,h11⟩:=za.1 h8
   obtain rfl:=zJ h10
   obtain rfl:=zO h11
   obtain⟨z,h12,h13⟩:=zxV h9
   refine⟨ES,okS,rfl,200,fun r=>r=J1 (C.enc (byN x) (gOf (.ar 11 d t))),_,[zx9 (gOf (.ar 11 d t)),J1 (byN x)],h12,zim _ _ _,fun r hr=>by rw[hr]; exact znG h13,?_,zn4 _ _⟩
   exact zil (zrI h5) (zbw fun i _=>rfl)
  ·exact h7.elim
 ·exact h2.elim
end
end Go.K
