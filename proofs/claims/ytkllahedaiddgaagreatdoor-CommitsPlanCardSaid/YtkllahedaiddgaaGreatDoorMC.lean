/- The program's AES as a contract of the run. No condition. -/
import Derived.Test.YtkllahedaiddgaaGreatDoorMS0
import Derived.Test.YtkllahedaiddgaaGreatDoorMM0
import Derived.Test.YtkllahedaiddgaaGreatDoorAE1
set_option linter.unusedSimpArgs false
set_option linter.unusedVariables false
namespace Go.K
open Go.Ab Go.RowKit Go.Y Go.Proofs
noncomputable section
attribute [local irreducible] zp zk
theorem vu {P:Nat→Prop}{a m:Nat}(h:zO (fun t=>P (a + t)) m) {n:Nat}(h1:a≤n) (h2:n < a + m):P n:=by
 have:=zat h (n - a) (by omega)
 rwa [show a + (n - a)=n by omega] at this
theorem zki:∀ n,n < 256→qu n:=by
 have key:∀ k,k < 8→∀ n,32 * k≤n→n < 32 * k + 32→qu n
  | 0,_,n,h1,h2=>vu zGY h1 h2
  | 1,_,n,h1,h2=>vu zBh h1 h2
  | 2,_,n,h1,h2=>vu zBi h1 h2
  | 3,_,n,h1,h2=>vu zBj h1 h2
  | 4,_,n,h1,h2=>vu zvx h1 h2
  | 5,_,n,h1,h2=>vu zvy h1 h2
  | 6,_,n,h1,h2=>vu zvz h1 h2
  | 7,_,n,h1,h2=>vu zvA h1 h2
  | k + 8,h,_,_,_=>absurd h (by omega)
 exact fun n h=>key (n / 32) (by omega) n (by omega) (by omega)
theorem zkj:∀ n,n < 1024→qv n:=by
 have key:∀ k,k < 8→∀ n,128 * k≤n→n < 128 * k + 128→qv n
  | 0,_,n,h1,h2=>vu zHu h1 h2
  | 1,_,n,h1,h2=>vu zwf h1 h2
  | 2,_,n,h1,h2=>vu zwg h1 h2
  | 3,_,n,h1,h2=>vu zwh h1 h2
  | 4,_,n,h1,h2=>vu zu3 h1 h2
  | 5,_,n,h1,h2=>vu zu4 h1 h2
  | 6,_,n,h1,h2=>vu zu5 h1 h2
  | 7,_,n,h1,h2=>vu zu6 h1 h2
  | k + 8,h,_,_,_=>absurd h (by omega)
 exact fun n h=>key (n / 128) (by omega) n (by omega) (by omega)
theorem zIc (n:Nat) (h:qu n):KCS E1.P 311 (xG [.int .u8 (.ofNat n)] (.int .u8 (.ofNat (pkr .u8 sbN n)))):=by
 unfold qu at h
 exact zgq ok1 h rfl rfl
theorem zId (n:Nat) (h:qv n):KCS E1.P 328 (xG [.int .u8 (.ofNat (n / 256)),.int .u8 (.ofNat (n % 256))] (.int .u8 (.ofNat (pkr .u8 mtN n)))):=by
 unfold qv at h
 exact zgq ok1 h rfl rfl
theorem Ze:KCS E1.P 311 (VQ sbN):=znT fun n hn=>zIc n (zki n hn)
theorem zkk:KCS E1.P 328 (zrX 4 mtN):=znU (by decide) fun n hn=>zId n (zkj n hn)
end
end Go.K
namespace Go.K
open Go.Ab Go.RowKit Go.Y Go.Proofs
noncomputable section
attribute [local irreducible] zp zk
theorem zhS {x:KV}{f:Nat→Prop}{a b c:Nat}(h:xm (fun k z=>chk (xn k .u8) a (@Int.rec (fun _=>Prop) (fun n=>f n) (fun _=>BadN b) z)) (BadN c) x):∃ n,x=.int .u8 (.ofNat n)∧f n:=by
 rcases zF h with ⟨k,z,rfl,h1⟩ | ⟨_,h1⟩
 ·obtain⟨h2,h3⟩:=ze h1
  obtain rfl:=zJ h2
  cases z with
  | ofNat n=>exact⟨n,rfl,h3⟩
  | negSucc n=>exact (show BadN _ from h3).elim
 ·exact h1.elim
theorem zoE:KCS Tryz.prog 311 ztD:=by
 refine⟨Ze.1,fun l K hs=>?_⟩
 obtain⟨x,rfl,h1⟩:=wz hs
 obtain⟨n,rfl,h2,h3⟩:=zhS h1
 obtain⟨v,h4,h5⟩:=Ze.2 [.int .u8 (.ofNat n)] K (by
  show chk (xn .u8 .u8) 253 (chk (Nat.blt n 256) 254 (zz (pkr .u8 sbN n) fun r=>K (.int .u8 (.ofNat r))))
  rw[show Nat.blt n 256=true by rw[Nat.blt_eq]; exact h2,zA]
  exact h3)
 exact⟨v,h4,h5⟩
theorem zoF:KCS Tryz.prog 328 ztE:=by
 refine⟨zkk.1,fun l K hs=>?_⟩
 obtain⟨x,y,rfl,h1⟩:=zgr hs
 obtain⟨m,rfl,h2⟩:=zhS h1
 obtain⟨n,rfl,h3⟩:=zhS h2
 obtain⟨h4,h5,h6⟩:=ze h3
 have hm:m < 4:=by rwa [Nat.blt_eq] at h4
 obtain⟨v,h7,h8⟩:=zkk.2 [.int .u8 (.ofNat m),.int .u8 (.ofNat n)] K (by
  show chk (xn .u8 .u8) 253 (chk (Nat.blt m 256) 254 (chk (xn .u8 .u8) 253 (chk (Nat.blt n 256) 254 (chk (Nat.blt m 4) 259 (zz (pkr .u8 mtN (Nat.add (Nat.mul 256 m) n)) fun r=>K (.int .u8 (.ofNat r)))))))
  rw[show Nat.blt n 256=true by rw[Nat.blt_eq]; exact h5,show Nat.blt m 256=true by rw[Nat.blt_eq]; omega,h4,zA]
  exact h6)
 exact⟨v,h7,h8⟩
theorem okS:@KOk gO ES:=@KOk.tab gO EO0 zI _ ⟨zoE.opn,zoF.opn,trivial⟩
def zb1:zf:=fun l K=>lb2 l fun s b=>W3 (fun n d t=>chk (Nat.beq n 11) 420 (chk (JE (.ar 11 d t) 11) 421 (wi (fun kd m x=>chk (nd (xn kd .u8) (Nat.beq m 16)) 422 (zyN (.ar 11 d t) x fun z=>K (.pk .u8 16 z))) (BadN 423) b))) (BadN 424) s
theorem zGL:∃ fn,Tryz.prog.funcs[296]?=some fn∧(fn.name == "runtime.NumGoroutine")=false∧fn.body.isNone=false:=⟨Tryz.f296,Tryz.func296,(w5.get Tryz.func296).1,by kernel_rfl⟩
theorem zhT {a b a' b':V}(h1:Imp a a') (h2:Imp b b'):∀ C m,R C (mkL [a,b]) m→R C (mkL [a',b']) m:=fun C m h=>R.cons_map (fun m h=>h1 C m h) (fun m h=>R.cons_map (fun m h=>h2 C m h) (fun m h=>h) h) h
theorem zhU (k:IntKind) (n x:Nat):xi (KV.pk k n x).v=true:=by
 rw[wj]
 show ((List.range n).all fun i=>xi (.int k (pkg k x i)))=true
 rw[List.all_eq_true]; intro i _; rfl
theorem Jn:@KCS gO Tryz.prog 296 zb1:=by
 refine @zgW gO Tryz.prog 296 zb1 zGL fun l K hs=>?_
 obtain⟨s,b,rfl,h1⟩:=zgr hs
 rcases jn h1 with ⟨n,d,t,rfl,h2⟩ | ⟨_,h2⟩
 ·obtain⟨h3,h4⟩:=ze h2
  obtain rfl:=zP h3
  obtain⟨h5,h6⟩:=ze h4
  rcases xI h6 with ⟨kd,m,x,rfl,h7⟩ | ⟨_,h7⟩
  ·obtain⟨h8,h9⟩:=ze h7
   obtain⟨h10,h11⟩:=za.1 h8
   obtain rfl:=zJ h10
   obtain rfl:=zP h11
   obtain⟨z,h12,h13⟩:=zyP h9
   refine⟨ES,okS,rfl,200,fun r=>r=JG (C.enc (jA x) (gOf (.ar 11 d t))),_,[zza (gOf (.ar 11 d t)),JG (jA x)],h12,zhU _ _ _,fun r hr=>by rw[hr]; exact zlx h13,?_,zlX _ _⟩
   exact zhT (zqU h5) (zbk fun i _=>rfl)
  ·exact h7.elim
 ·exact h2.elim
end
end Go.K
