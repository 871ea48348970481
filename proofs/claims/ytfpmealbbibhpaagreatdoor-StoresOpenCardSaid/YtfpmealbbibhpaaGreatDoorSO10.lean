/- stores.Open: the walk, and the contract. No condition. StoresOpen: the law's run. No condition. StoresOpen: the law's run up to the zero store, said shortly. No condition. caissonref15.Fresh of at most 60 blocks. No condition. -/
import Derived.Test.YtfpmealbbibhpaaGreatDoorSO8
import Derived.Test.YtfpmealbbibhpaaGreatDoorSO5
import Derived.Test.YtfpmealbbibhpaaGreatDoorSJ1
import Derived.Test.YtfpmealbbibhpaaGreatDoorAS7
import Derived.Test.YtfpmealbbibhpaaGreatDoorSDD
set_option linter.unusedVariables false
set_option linter.unusedSimpArgs false
set_option maxRecDepth 100000
namespace Go.K
open Go.Ab Go.RowKit Go.Y Go.Proofs
noncomputable section
attribute [local instance 10000] gO
theorem r115_eq (z:Int) (a b:Nat):r115 z a b=if okNw z a b then .tup (.cons (ncK true false z.toNat a b) (.cons (nI 0) .nl)) else bad115 1:=by
  cases z with
  | ofNat n=>rfl
  | negSucc n=>rfl
theorem kcs115:KCS Tryz.prog 115 sNew:=kcsJ ⟨Tryz.f115,Tryz.func115,by kernel_rfl,by kernel_rfl⟩ fun l K hs=>by
  obtain⟨x,rfl,h1,h2⟩:=hs
  refine⟨r115 x.1 x.2.1 x.2.2,?_,j115 _ _ _⟩
  rw[r115_eq]
  cases h:okNw x.1 x.2.1 x.2.2 with
  | true=>exact h1 h
  | false=>exact h2 h
theorem ok38:KOk E38:=okO0.tab ⟨kcs115,kcs20,kcs35,kcs116,trivial⟩
def okCf (c:Cf):Bool:=decide (1≤c.n∧c.n≤60∧c.sh≤c.n)&&okNw c.sh c.a c.b
def lgF (n:Nat):KV:=.ro true false shCl 0 1 (.ar 1 celZ (.tn (celF n) .te .te .te .te))
def opR (c:Cf):KV:=if okCf c then vRes c.n c.n.toNat c.sh.toNat c.a c.b (lgF c.n.toNat) else zRes
theorem r38s:Tryz.f38.results.toList=rOf 38:=by kernel_rfl
attribute [local irreducible] kpre cOf mOf rOf JL krun l38 okNK
theorem j38 (c:Cf) (hc:c.n≤60∨4096 < c.n):JFn Tryz.prog 38 true [c.k] (opR c):=by
  refine JFn.of (P:=Tryz.prog) ok38 rfl (c:=cOf 38) (mOf 38) Tryz.func38 (by kernel_rfl) fun B N hN=>?_
  have h51:Tryz.f38.ntmps=64:=by kernel_rfl
  rw[h51] at hN
  have h0:fl (cOf 38)=l38:=by kernel_rfl
  rw[h0]
  refine JL.goA (P:=Tryz.prog) (n:=60) ok38 rfl (rOf 38) [] [7] hN (by kernel_rfl) (by kernel_rfl) ?_
  have bad:okCf c=false→∀ os nx,goR Tryz.prog (rOf 38) (mOf 38) [7] (retJ E38 Tryz.f38 true (opR c)) zRes os nx:=by
    rintro h os nx tr zm _ _ _ hr
    rw[show opR c=zRes by unfold opR; rw[h]; rfl]
    exact retJ.mk rfl r38s (FzP.noref rfl) hr
  show p38 c _ _
  rw[e38]
  simp only[alt_iff,rest38,ltI_eq,decide_eq_true_eq,decide_eq_false_iff_not]
  have no:¬(1≤c.n∧c.n≤60∧c.sh≤c.n)→okCf c=false:=fun h=>by unfold okCf; rw[decide_eq_false h]; rfl
  refine⟨fun h=>bad (no ?_) _ _,fun h1=>⟨fun h=>bad (no ?_) _ _,fun h2=>⟨fun h=>bad (no ?_) _ _,fun h3=>?_⟩⟩⟩
  · rintro⟨a,_⟩; exact absurd h (Int.not_lt.2 a)
  · rintro⟨_,a,_⟩; exact absurd (show (4096:Int) < c.n from h) (by omega)
  · rintro⟨_,_,a⟩; exact absurd h (Int.not_lt.2 a)
  have h1':1≤c.n:=Int.not_lt.1 h1
  have h2':c.n≤60:=hc.elim (fun h=>h) (fun h=>absurd (show Int.ofNat 4096 < c.n from h) h2)
  have h3':c.sh≤c.n:=Int.not_lt.1 h3
  obtain⟨n,hn⟩:=Int.eq_ofNat_of_zero_le (by omega:0≤c.n)
  have hn1:1≤n∧n≤60:=by omega
  refine⟨(c.sh,c.a,c.b),rfl,fun hk=>⟨n,by rw[hn]; rfl,hn1,n,by rw[hn]; rfl,hn1,c.m,rfl,?_⟩,fun hk=>bad ?_ _ _⟩
  · intro tr zm hz _ _ hr
    have hz1:kb zm 7=some (rwB n):=by injection hz with h _
    have ho:okCf c=true:=by
      unfold okCf
      rw[decide_eq_true (⟨h1',h2',h3'⟩:1≤c.n∧c.n≤60∧c.sh≤c.n),Bool.true_and]
      exact hk
    rw[show opR c=vRes c.n n c.sh.toNat c.a c.b (lgF n) by
      unfold opR
      rw[ho,show c.n.toNat=n by rw[hn]; rfl]; rfl]
    refine retJ.mk rfl r38s (FzP.tup (.cons (.cons (FzP.noref rfl) (.cons (FzP.noref rfl) (.cons (FzP.ub (ubK_dsk n)) (.cons ?_ (.cons (FzP.ub rfl) (.cons (FzP.ub (ubK_wt n)) (FzP.ub rfl))))))) (FzP.noref rfl))) hr
    refine FzP.row hz1 rfl rfl fun i hi B C M h3 h4 m hm=>?_
    obtain rfl:i=0:=by omega
    exact R.noref _ rfl hm
  · show (decide _&&okNw c.sh c.a c.b)=false
    rw[hk,Bool.and_false]
def sOpn:KSpec:=sFam (fun c:Cf=>[c.k]) (fun c=>c.n≤60∨4096 < c.n) opR
theorem kcs38:KCSb Tryz.prog 38 sOpn:=kcsFamB ⟨Tryz.f38,Tryz.func38,by kernel_rfl,by kernel_rfl⟩ j38
end
end Go.K
set_option maxRecDepth 100000
namespace Go.K
open Go.Ab Go.RowKit Go.Y Go.Proofs
noncomputable section
attribute [local instance 10000] gO
theorem as209_o:@AsOk gO Tryz.prog 209 247 345:=@as209 gO (rfl)
def EOs:KEnv:=⟨EO0.P,EO0.ct,fun f=>@Bool.rec (fun _=>Nat) (EO0.md f) 3 (Nat.beq f 117),EO0.km,EO0.ol,EO0.ex,EO0.cb,fun f=>@Bool.rec (fun _=>Option (Nat×Nat)) none (some (247,345)) (Nat.beq f 209)⟩
theorem okOs:KOk EOs:=⟨okO0.fns,okO0.ct,okO0.gn,okO0.mixed,okO0.ex,okO0.cb,fun f T PT h=>by
  have h:@Bool.rec (fun _=>Option (Nat×Nat)) none (some (247,345)) (Nat.beq f 209)=some (T,PT):=h
  cases hf:Nat.beq f 209 with
  | false=>rw[hf] at h; cases h
  | true =>
    rw[hf] at h
    cases h
    obtain rfl:=Nat.eq_of_beq_eq_true hf
    exact as209_o⟩
def opP (c:Cf) (w:KV) (l:List KV):Prop:=l=[c.k]∧(c.n≤60∨4096 < c.n)∧opR c=w
def sOpc (c:Cf) (w:KV):KSpec:=fun l K=>opP c w l∧K w
theorem kcs38c {c:Cf}{w:KV}:KCSb Tryz.prog 38 (sOpc c w):=kcsJb ⟨Tryz.f38,Tryz.func38,by kernel_rfl,by kernel_rfl⟩ fun l K hs=>by
  obtain⟨⟨rfl,hc,hw⟩,h1⟩:=hs
  exact⟨w,h1,by rw[←hw]; exact j38 c hc⟩
def sCel:KSpec:=fun l K=>∃ n:Nat,l=[nI n]∧(1≤n∧n≤60)∧K (celF n)
def E8 (c:Cf) (w:KV):KEnv:=(EOs.tab [(45,kcon [] (.bool true)),(47,sCel),(99,sNw),(210,sIs 2147483896 2147483648 9117368320)]).tabB [(38,sOpc c w)]
def vOf (c:Cf):KV:=vRes c.n c.n.toNat c.sh.toNat c.a c.b (lgF c.n.toNat)
noncomputable def l8:List Code:=fl (cOf 8)
def zK (z:Nat→Int):KV:=.ar 2 (nI 0) (trF (fun i=>.clo (.int .i64 (z i))) 2)
def shZ:Shape:=.arr 2 .sc
noncomputable def p8a (w:KV) (c:Cf) (z:Nat→Int) (Q:QT) (R:RT):Prop:=kpre (E8 c w) 60 (mOf 8) (l8.take 9) (mkTr (argM (mOf 8) 0 [c.k,zK z])) (mkZm []) 0 0 (outR Tryz.prog (rOf 8) [3] [1] Q R)
noncomputable def S8 (z:Nat→Int):LS:=([(3,.ptr 1 [] shZ)],[(1,bx 138 shZ (zK z))],2)
noncomputable def p8b (w:KV) (c:Cf) (z:Nat→Int) (Q:QT) (R:RT):Prop:=kpre (E8 c w) 60 (mOf 8) (l8.drop 9) (mkTr (S8 z).1) (mkZm (S8 z).2.1) (S8 z).2.2 0 (outR Tryz.prog (rOf 8) [] [] Q R)
noncomputable def p8v (c:Cf):=p8a (vOf c) c
noncomputable def p8r (c:Cf):=p8a zRes c
end
end Go.K
set_option maxRecDepth 100000
namespace Go.K
open Go.Ab Go.RowKit Go.Y Go.Proofs
noncomputable section
attribute [local instance 10000] gO
def zsB (z:Nat→Int):List (Option KBlk):=[some (bx 138 shZ (zK z))]
def xZ (n:Nat):Bool:=!(@Bool.rec (fun _=>Bool) false (nd (eqI 0 (.ofNat 0)) (nd (eqI 0 (.ofNat 0)) true)) (@Nat.rec (fun _=>Bool) true (fun i ih=>nd ih (eqI 0 (pkg .u8 (dgF (hgtF n)) i))) 32))
def xV (m n:Nat):Bool:=!(@Bool.rec (fun _=>Bool) false (nd (eqI (.ofNat 0) (.ofNat 0)) (nd (eqI (.ofNat 0) (.ofNat 0)) true)) (Nat.beq (pkx .u8 (dgF (hgtF m)) 0 32) (pkx .u8 (dgF (hgtF n)) 0 32)))
def chC (c:Cf) (X F:Prop):Prop:=alt (leI (.ofNat 1) c.n) (alt (leI c.n (.ofNat 4096)) (alt (leI (.ofNat 1) c.sh) (alt (leI c.sh (.ofNat 8)) (alt (leI c.sh c.n) (alt (leI (.ofNat 1) (.ofNat c.b)) (alt (leI (.ofNat c.b) (.ofNat 4294967296)) X F) F) F) F) F) F) F
def hdC (c:Cf) (T G:Prop):Prop:=alt (ltI (.ofNat 60) c.n) (alt (leI c.n (.ofNat 4096)) T G) G
theorem e8v (c:Cf) (z:Nat→Int) (Q:QT) (R:RT):p8v c z Q R=hdC c (R (.bool true) (zsB z) 2) (opP c (vOf c) [c.k]∧chC c
    (alt (!leI (.ofNat c.b) (.ofNat c.a)) (R (.bool false) (zsB z) 3) (alt (!leI (.ofNat c.b) (.ofNat c.a)) (R (.bool false) (zsB z) 3) (alt (leI (.ofNat c.b) (.ofNat c.a)) (alt (!eqI c.n c.n) (R (.bool false) (zsB z) 4) (alt (eqI c.n (.ofNat 0))
      (∃ n:Nat,[KV.int .i64 c.n]=[nI n]∧(1≤n∧n≤60)∧alt (xZ n) (R (.bool false) (zsB z) 6) (Q .normal [.ptr 1 [] shZ] (zsB z) 12))
      (∃ n:Nat,[KV.int .i64 c.n]=[nI n]∧(1≤n∧n≤60)∧alt (xV c.n.toNat n) (R (.bool false) (zsB z) 6) (Q .normal [.ptr 1 [] shZ] (zsB z) 12)))) (Q .normal [.ptr 1 [] shZ] (zsB z) 3))))
    (R (.bool false) (zsB z) 3)):=by kernel_rfl
def rfC (c:Cf) (z:Nat→Int) (Q:QT) (R:RT):Prop:=alt (leI (.ofNat c.b) (.ofNat c.a)) (alt (!eqI (.ofNat 0) c.n) (R (.bool false) (zsB z) 4)
      (∃ n:Nat,[KV.int .i64 c.n]=[nI n]∧(1≤n∧n≤60)∧alt (xZ n) (R (.bool false) (zsB z) 6) (R (.bool false) (zsB z) 7))) (Q .normal [.ptr 1 [] shZ] (zsB z) 3)
theorem e8r (c:Cf) (z:Nat→Int) (Q:QT) (R:RT):p8r c z Q R=hdC c (R (.bool true) (zsB z) 2) (opP c zRes [c.k]∧chC c
    (alt (!(@Bool.rec (fun _=>Bool) true false (leI (.ofNat c.b) (.ofNat c.a)))) (R (.bool false) (zsB z) 3) (alt (!leI (.ofNat c.b) (.ofNat c.a)) (rfC c z Q R) (rfC c z Q R)))
    (Q .normal [.ptr 1 [] shZ] (zsB z) 3)):=by kernel_rfl
end
end Go.K
set_option maxRecDepth 100000
namespace Go.K
open Go.Ab Go.RowKit Go.Y Go.Proofs
noncomputable def E47:KEnv:=E0s.tab [(137,sMem tab137)]
theorem ok47:KOk E47:=ok0s.tab ⟨kcsT137,trivial⟩
noncomputable def q47 (n:Nat):Prop:=callR E47 (krun E47 1000000) 0 47 [.int .i64 (.ofNat n)] .e 0 0 fun r zm _ _=>tK (fzB zm 60 r (celF n))
attribute [local irreducible] krun callR
theorem ce_0:AllR q47 1 60=AllR (fun _=>True) 1 60:=by kernel_rfl
attribute [local irreducible] AllR q47 celF
theorem q47_all {n:Nat}(h1:1≤n) (h2:n≤60):q47 n:=allR_of (Eq.mpr ce_0 (allR_true 1 60)) h1 (by omega)
theorem kcs47:@KCS gO Tryz.prog 47 sCel:=(kcsN ok47 (fid:=47) (args:=fun n=>[nI n]) (pre:=fun n=>1≤n∧n≤60) (res:=celF) (k:=60) (m:=1000000) ⟨Tryz.f47,Tryz.func47,by kernel_rfl,by kernel_rfl⟩ fun n hn=>by
  have h:=q47_all hn.1 hn.2
  unfold q47 at h
  exact h).opn
end Go.K
