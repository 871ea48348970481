/- nonces.Check of a state at its beginning, with any limit. No condition. nonces.New, of any numbers. No condition. disks.newest, of the zero disk. No condition. -/
import Derived.Test.YtfpmealbbibhpaaGreatDoorKL0
import Derived.Test.YtfpmealbbibhpaaGreatDoorK29
import Derived.Test.YtfpmealbbibhpaaGreatDoorSO1
set_option linter.unusedVariables false
set_option linter.unusedSimpArgs false
set_option maxRecDepth 100000
namespace Go.K
open Go.Ab Go.RowKit Go.Y Go.Proofs
noncomputable section
attribute [local instance 10000] gO
noncomputable def cOf (n:Nat):Code:=match Tryz.prog.funcs[n]? with
  | some fn=>match fn.body with
    | some c=>c
    | none=>.skip
  | none=>.skip
noncomputable def rOf (n:Nat):List ResultVar:=match Tryz.prog.funcs[n]? with
  | some fn=>fn.results.toList
  | none=>[]
noncomputable def mOf (n:Nat):Nat:=maskL.getD n 0
abbrev QT:=Exit→List KV→List (Option KBlk)→Nat→Prop
abbrev RT:=KV→List (Option KBlk)→Nat→Prop
noncomputable def bx (t:Nat) (s:Shape) (v:KV):KBlk:=⟨.box t,s,v⟩
noncomputable def zu:KV:=.int .u64 (.ofNat 0)
noncomputable def uI (a:Nat):KV:=.int .u64 (.ofNat a)
noncomputable def ncK (u cl:Bool) (n a b:Nat):KV:=.cons (.ro u cl .sc 0 n (.ar n zu .te)) (.cons zu (.cons (uI a) (.cons (uI b) .nl)))
noncomputable def shN:Shape:=.cons .sc (.cons .sc (.cons .sc (.cons .sc .nl)))
noncomputable def l201:List Code:=fl (cOf 201)
noncomputable def b201:Code:=lpB (blB (l201.getD 3 .skip))
noncomputable def S201 (u cl:Bool) (n a b i:Nat):LS:=([(1,.ptr 0 [] shN),(40,.ro u cl .sc 0 n (.ar n zu .te)),(41,nI n),(42,nI i)],[(0,bx 122 shN (ncK u cl n a b))],1)
noncomputable def p201a (u cl:Bool) (n a b:Nat) (Q:QT) (R:RT):Prop:=kpre EO0 60 (mOf 201) (l201.take 3) (mkTr (argM (mOf 201) 0 [ncK u cl n a b])) (mkZm []) 0 0 (outR Tryz.prog (rOf 201) [1,40,41,42] [0] Q R)
noncomputable def p201b (u cl:Bool) (n a b i:Nat) (Q:QT) (R:RT):Prop:=kpre EO0 60 (mOf 201) (fl b201) (mkTr (S201 u cl n a b i).1) (mkZm (S201 u cl n a b i).2.1) (S201 u cl n a b i).2.2 0 (outR Tryz.prog (rOf 201) [1,40,41,42] [0] Q R)
noncomputable def p201c (u cl:Bool) (n a b i:Nat) (Q:QT) (R:RT):Prop:=kpre EO0 60 (mOf 201) (l201.drop 4) (mkTr (S201 u cl n a b i).1) (mkZm (S201 u cl n a b i).2.1) (S201 u cl n a b i).2.2 0 (outR Tryz.prog (rOf 201) [] [] Q R)
noncomputable def z201 (u cl:Bool) (n a b:Nat):List (Option KBlk):=[some (bx 122 shN (ncK u cl n a b))]
theorem e201a (u cl:Bool) (n a b:Nat) (Q:QT) (R:RT):p201a u cl n a b Q R=alt (ltI (.ofNat n) (.ofNat 1)) (R (nI 1) (z201 u cl n a b) 1) (alt (ltI (.ofNat 8) (.ofNat n)) (R (nI 1) (z201 u cl n a b) 1) (alt (ltI (.ofNat b) (.ofNat 1)) (R (nI 1) (z201 u cl n a b) 1) (alt (ltI (.ofNat 4294967296) (.ofNat b)) (R (nI 1) (z201 u cl n a b) 1) (alt (ltI (.ofNat a) (.ofNat b)) (R (nI 1) (z201 u cl n a b) 1)
  (Q .normal [.ptr 0 [] shN,.ro u cl .sc 0 n (.ar n zu .te),nI n,nI 0] (z201 u cl n a b) 1))))):=by kernel_rfl
theorem e201b (u cl:Bool) (n a b i:Nat) (Q:QT) (R:RT):p201b u cl n a b i Q R=alt (ltI (.ofNat i) (.ofNat n)) (cnd (ixB (.ofNat i) n) (cnd (Nat.blt (i + 1) 9223372036854775808) (Q .normal [.ptr 0 [] shN,.ro u cl .sc 0 n (.ar n zu .te),nI n,nI (i + 1)] (z201 u cl n a b) 1)))
  (Q (.exit 1) [.ptr 0 [] shN,.ro u cl .sc 0 n (.ar n zu .te),nI n,nI i] (z201 u cl n a b) 1):=by kernel_rfl
theorem e201c (u cl:Bool) (n a b i:Nat) (Q:QT) (R:RT):p201c u cl n a b i Q R=R (nI 0) [] 1:=by kernel_rfl
noncomputable def okNK (n a b:Nat):Bool:=decide (1≤n∧n≤8∧1≤b∧b≤4294967296∧b≤a)
attribute [local irreducible] kpre cOf mOf rOf JL krun l201 b201
theorem r201:Tryz.f201.results.toList=rOf 201:=by kernel_rfl
theorem j201 (u cl:Bool) (n a b:Nat):JFn Tryz.prog 201 false [ncK u cl n a b] (nI (if okNK n a b then 0 else 1)):=by
  refine JFn.of (P:=Tryz.prog) okO0 rfl (c:=cOf 201) (mOf 201) Tryz.func201 (by kernel_rfl) fun B N hN=>?_
  have h51:Tryz.f201.ntmps=51:=by kernel_rfl
  rw[h51] at hN
  have h0:fl (cOf 201)=l201:=by kernel_rfl
  rw[h0]
  refine JL.goT (P:=Tryz.prog) (n:=60) okO0 rfl 3 (rOf 201) [1,40,41,42] [0] hN (by kernel_rfl) (by kernel_rfl) ?_
  show p201a u cl n a b _ _
  rw[e201a]
  simp only[alt_iff,ltI_t,ltI_f]
  have fin:∀ x,x=(if okNK n a b then 0 else 1)→∀ li os nx,goR Tryz.prog (rOf 201) (mOf 201) li (retJ EO0 Tryz.f201 false (nI (if okNK n a b then 0 else 1))) (nI x) os nx:=by
    rintro x rfl li os nx tr zm _ _ _ hr
    exact retJ.mk rfl r201 (FzP.noref rfl) hr
  have bad:okNK n a b=false→1=(if okNK n a b then 0 else 1):=fun h=>by rw[h]; rfl
  refine⟨fun h=>fin 1 (bad (by simp [okNK]; omega)) _ _ _,fun h1=>⟨fun h=>fin 1 (bad (by simp [okNK]; omega)) _ _ _,fun h2=>⟨fun h=>fin 1 (bad (by simp [okNK]; omega)) _ _ _,fun h3=>⟨fun h=>fin 1 (bad (by simp [okNK]; omega)) _ _ _,fun h4=>⟨fun h=>fin 1 (bad (by simp [okNK]; omega)) _ _ _,fun h5=>?_⟩⟩⟩⟩⟩
  have hok:okNK n a b=true:=by simp [okNK]; omega
  intro tr zm ht hz hmb hi
  refine JL.loopT okO0 (S201 u cl n a b) (fun i=>n - i) (fun i=>i≤n) (id:=1) (b:=b201) (l2:=l201.drop 4) (by kernel_rfl) (fun i=>by kernel_rfl) 0 (Nat.zero_le _) (atS.of [] id ht hz (by kernel_rfl) ?_ ?_) hmb hi ?_
  · exact⟨(RnB.ptr rfl (ltk rfl)).v,nfV rfl,nfV rfl,nfV rfl,trivial⟩
  · exact⟨RnK.nf rfl,trivial⟩
  intro i hin
  refine JL.goA (P:=Tryz.prog) (n:=60) okO0 rfl (rOf 201) [1,40,41,42] [0] hN (by kernel_rfl) (by kernel_rfl) ?_
  show p201b u cl n a b i _ _
  rw[e201b]
  simp only[alt_iff,cnd_iff,ltI_t,ltI_f,ixB_t,blt_t]
  refine⟨fun h=>⟨h,by omega,?_⟩,fun h=>?_⟩
  · intro tr zm ht hz hmb hi
    show ∃ s',_
    refine⟨i + 1,by omega,by omega,atS.of [] id ht hz (by kernel_rfl) ?_ ?_⟩
    · exact⟨(RnB.ptr rfl (ltk rfl)).v,nfV rfl,nfV rfl,nfV rfl,trivial⟩
    · exact⟨RnK.nf rfl,trivial⟩
  · intro tr zm ht hz hmb hi
    show (if 1=1 then _ else _)
    rw[if_pos rfl]
    refine JL.preS okO0 (s:=S201 u cl n a b i) (atS.of [] id ht hz (by kernel_rfl) ⟨(RnB.ptr rfl (ltk rfl)).v,nfV rfl,nfV rfl,nfV rfl,trivial⟩ ⟨RnK.nf rfl,trivial⟩) (neN_s (by kernel_rfl)) ?_
    refine JL.goA (P:=Tryz.prog) (n:=60) okO0 rfl (rOf 201) [] [] hN (by kernel_rfl) (by kernel_rfl) ?_
    show p201c u cl n a b i _ _
    rw[e201c]
    exact fin 0 (by rw[hok]; rfl) _ _ _
noncomputable def s201:KSpec:=sFam (α:=Bool×Bool×Nat×Nat×Nat) (fun x=>[ncK x.1 x.2.1 x.2.2.1 x.2.2.2.1 x.2.2.2.2]) (fun _=>True) (fun x=>nI (if okNK x.2.2.1 x.2.2.2.1 x.2.2.2.2 then 0 else 1))
theorem kcs201:KCS Tryz.prog 201 s201:=kcsFam ⟨_,Tryz.func201,by kernel_rfl,by kernel_rfl⟩ fun x _=>j201 _ _ _ _ _
end
end Go.K
set_option maxRecDepth 100000
namespace Go.K
open Go.Ab Go.RowKit Go.Y Go.Proofs
noncomputable section
attribute [local instance 10000] gO
noncomputable def E115:KEnv:=EO0.tab [(201,s201)]
theorem ok115:KOk E115:=okO0.tab ⟨kcs201,trivial⟩
noncomputable def l115:List Code:=fl (cOf 115)
noncomputable def p115a (n a b:Nat) (Q:QT) (R:RT):Prop:=kpre E115 60 (mOf 115) l115 (mkTr (argM (mOf 115) 0 [nI n,uI a,uI b])) (mkZm []) 0 0 (outR Tryz.prog (rOf 115) [] [0,1,2,3,4] Q R)
noncomputable def p115b (n a b:Nat) (Q:QT) (R:RT):Prop:=kpre E115 60 (mOf 115) l115 (mkTr (argM (mOf 115) 0 [.int .i64 (.negSucc n),uI a,uI b])) (mkZm []) 0 0 (outR Tryz.prog (rOf 115) [] [0,1,2,3,4] Q R)
noncomputable def zNk:KV:=.cons .nils (.cons zu (.cons zu (.cons zu .nl)))
noncomputable def bad115 (e:Nat):KV:=.tup (.cons zNk (.cons (nI e) .nl))
noncomputable def z115:List (Option KBlk):=[some (bx 122 shN zNk),none,none,none,none]
noncomputable def y115 (n a b:Nat):KV:=.cons (.sl 1 [] .sc 0 n (some n)) (.cons zu (.cons (uI a) (.cons (uI b) .nl)))
noncomputable def w115 (r:KV) (n a b:Nat):List (Option KBlk):=[some (bx 122 shN r),some (bx 34 (.arr n .sc) (.ar n zu .te)),some (bx 122 shN (y115 n a b)),none,none]
theorem e115a (n a b:Nat) (Q:QT) (R:RT):p115a n a b Q R=alt (ltI (.ofNat n) (.ofNat 1)) (R (bad115 1) z115 1) (alt (ltI (.ofNat 8) (.ofNat n)) (R (bad115 1) z115 1) (cnd (mkB (.ofNat n) (.ofNat n)) (chk (Nat.ble (Nat.add 0 n) n) 220
  (∃ x:Bool×Bool×Nat×Nat×Nat,[ncK false (Nat.beq n n) n a b]=[ncK x.1 x.2.1 x.2.2.1 x.2.2.2.1 x.2.2.2.2]∧True∧alt (!eqI (.ofNat (if okNK x.2.2.1 x.2.2.2.1 x.2.2.2.2 then 0 else 1)) (.ofNat 0)) (R (bad115 (if okNK x.2.2.1 x.2.2.2.1 x.2.2.2.2 then 0 else 1)) (w115 zNk n a b) 3) (R (.tup (.cons (y115 n a b) (.cons (nI 0) .nl))) (w115 (y115 n a b) n a b) 3))))):=by kernel_rfl
theorem e115b (n a b:Nat) (Q:QT) (R:RT):p115b n a b Q R=R (bad115 1) z115 1:=by kernel_rfl
noncomputable def r115 (n:Int) (a b:Nat):KV:=match n with
  | .ofNat n=>if okNK n a b then .tup (.cons (ncK true false n a b) (.cons (nI 0) .nl)) else bad115 1
  | .negSucc _=>bad115 1
theorem r115s:Tryz.f115.results.toList=rOf 115:=by kernel_rfl
attribute [local irreducible] kpre cOf mOf rOf JL krun l115 okNK
theorem j115 (z:Int) (a b:Nat):JFn Tryz.prog 115 false [.int .i64 z,uI a,uI b] (r115 z a b):=by
  refine JFn.of (P:=Tryz.prog) ok115 rfl (c:=cOf 115) (mOf 115) Tryz.func115 (by kernel_rfl) fun B N hN=>?_
  have h51:Tryz.f115.ntmps=29:=by kernel_rfl
  rw[h51] at hN
  have h0:fl (cOf 115)=l115:=by kernel_rfl
  rw[h0]
  refine JL.goA (P:=Tryz.prog) (n:=60) ok115 rfl (rOf 115) [] [0,1,2,3,4] hN (by kernel_rfl) (by kernel_rfl) ?_
  have bad:r115 z a b=bad115 1→∀ os nx,goR Tryz.prog (rOf 115) (mOf 115) [0,1,2,3,4] (retJ E115 Tryz.f115 false (r115 z a b)) (bad115 1) os nx:=by
    rintro h os nx tr zm _ _ _ hr
    rw[h]
    exact retJ.mk rfl r115s (FzP.noref rfl) hr
  cases z with
  | negSucc n =>
    show p115b n a b _ _
    rw[e115b]
    exact bad rfl _ _
  | ofNat n =>
    show p115a n a b _ _
    rw[e115a]
    simp only[alt_iff,cnd_iff,ltI_t,ltI_f]
    have no:okNK n a b=false→r115 (.ofNat n) a b=bad115 1:=fun h=>by simp [r115,h]
    refine⟨fun h=>bad (no (by unfold okNK; simp; omega)) _ _,fun h1=>⟨fun h=>bad (no (by unfold okNK; simp; omega)) _ _,fun h2=>⟨?_,?_⟩⟩⟩
    · show (Nat.ble 0 n&&(Nat.ble n n&&Nat.ble n 16777216))=true
      simp; omega
    · rw[show Nat.ble (Nat.add 0 n) n=true from ble_t.2 (by show 0 + n≤n; omega)]
      refine⟨(false,Nat.beq n n,n,a,b),rfl,trivial,?_⟩
      cases hk:okNK n a b with
      | false =>
        exact⟨fun _=>bad (no hk) _ _,fun h=>absurd h (by decide)⟩
      | true =>
        refine⟨fun h=>absurd h (by decide),fun _=>?_⟩
        intro tr zm hz _ _ hr
        have hz1:kb zm 1=some (bx 34 (.arr n .sc) (.ar n zu .te)):=by injection hz with _ h; injection h
        rw[show r115 (.ofNat n) a b=.tup (.cons (ncK true false n a b) (.cons (nI 0) .nl)) by simp [r115,hk]]
        refine retJ.mk rfl r115s (FzP.tup (.cons (.cons (FzP.sl hz1 rfl rfl (f:=fun _=>zu.v) rfl fun i hi=>?_) (FzP.noref rfl)) (FzP.noref rfl))) hr
        exact FzE.noref rfl
end
end Go.K
set_option maxRecDepth 100000
namespace Go.K
open Go.Ab Go.RowKit Go.Y Go.Proofs
noncomputable section
attribute [local instance 10000] gO
def zDs:KV:=.cons (nI 0) (.cons (nI 0) (.cons .nils .nl))
noncomputable def l99:List Code:=fl (cOf 99)
noncomputable def p99 (a:Int) (Q:QT) (R:RT):Prop:=kpre EO0 60 (mOf 99) l99 (mkTr (argM (mOf 99) 0 [zDs,.int .i64 a])) (mkZm []) 0 0 (outR Tryz.prog (rOf 99) [] [] Q R)
def w99:KV:=.tup (.cons .nilp (.cons (nI 1) .nl))
theorem e99p (n:Nat) (Q:QT) (R:RT):p99 (.ofNat n) Q R=R w99 [] 1:=by kernel_rfl
theorem e99n (n:Nat) (Q:QT) (R:RT):p99 (.negSucc n) Q R=R w99 [] 1:=by kernel_rfl
theorem r99s:Tryz.f99.results.toList=rOf 99:=by kernel_rfl
def clI (p:Prop) (x:KV):Prop:=match x with
  | .clo (.int .i64 _)=>p
  | _=>BadN 931
def sNw:KSpec:=fun l K=>la2 l fun d x=>chk (kvb d zDs) 930 (clI (K w99) x)
attribute [local irreducible] kpre cOf mOf rOf JL krun l99
theorem j99 (a:Int):JFn Tryz.prog 99 false [zDs,.int .i64 a] w99:=by
  refine JFn.of (P:=Tryz.prog) okO0 rfl (c:=cOf 99) (mOf 99) Tryz.func99 (by kernel_rfl) fun B N hN=>?_
  have h51:Tryz.f99.ntmps=25:=by kernel_rfl
  rw[h51] at hN
  have h0:fl (cOf 99)=l99:=by kernel_rfl
  rw[h0]
  refine JL.goA (P:=Tryz.prog) (n:=60) okO0 rfl (rOf 99) [] [] hN (by kernel_rfl) (by kernel_rfl) ?_
  have fin:goR Tryz.prog (rOf 99) (mOf 99) [] (retJ EO0 Tryz.f99 false w99) w99 [] 1:=by
    rintro tr zm _ _ _ hr
    exact retJ.mk rfl r99s (FzP.noref rfl) hr
  show p99 a _ _
  cases a with
  | ofNat n=>rw[e99p]; exact fin
  | negSucc n=>rw[e99n]; exact fin
theorem clo_int (k:IntKind) (a:Int):(KV.clo (.int k a)).v=(KV.int k a).v:=cloV_eq trivial rfl rfl
theorem kcs99:KCS Tryz.prog 99 sNw:=by
  have h:=kcsFam (P:=Tryz.prog) (fid:=99) (args:=fun a:Int=>[zDs,.int .i64 a]) (pre:=fun _=>True) (res:=fun _=>w99) ⟨Tryz.f99,Tryz.func99,by kernel_rfl,by kernel_rfl⟩ fun a _=>j99 a
  refine⟨h.1,fun l K hs=>?_⟩
  obtain⟨d,x,rfl,h1⟩:=la2_s hs
  obtain⟨h2,h3⟩:=chk_inv h1
  obtain rfl:=kvb_s h2
  unfold clI at h3
  split at h3
  · rename_i a
    have h4:=h.2 [zDs,.int .i64 a] K ⟨a,rfl,trivial,h3⟩
    rw[show List.map KV.v [zDs,(KV.int .i64 a).clo]=List.map KV.v [zDs,.int .i64 a] by rw[List.map_cons,List.map_cons,List.map_cons,List.map_cons,clo_int]]
    exact h4
  · exact h3.elim
end
end Go.K
