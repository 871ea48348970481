/- StoresOpen: the law. No condition. StoresOpen: the contract of the law. No condition. -/
import Derived.Test.YtfpmealbbibhpaaGreatDoorSO10
import Derived.Test.YtfpmealbbibhpaaGreatDoorSLR1_0
set_option linter.unusedVariables false
set_option linter.unusedSimpArgs false
set_option maxRecDepth 100000
namespace Go.K
open Go.Ab Go.RowKit Go.Y Go.Proofs
noncomputable section
attribute [local instance 10000] gO
theorem kcs45:KCS Tryz.prog 45 (kcon [] (.bool true)):=KCS.opn (show @KCS kgL Tryz.prog 45 (kcon [] (.bool true)) from c45_0)
theorem ok8 {c:Cf}{w:KV}:KOk (E8 c w):=by
  unfold E8
  exact KOk.tabB (okOs.tab (l:=[(45,kcon [] (.bool true)),(47,sCel),(99,sNw),(210,sIs 2147483896 2147483648 9117368320)]) ⟨kcs45,kcs47,kcs99,kcs210.opn,trivial⟩) ⟨kcs38c,trivial⟩
theorem chC_iff {c:Cf}{X F:Prop}:chC c X F↔((1≤c.n∧c.n≤4096∧1≤c.sh∧c.sh≤8∧c.sh≤c.n∧1≤c.b∧c.b≤4294967296)→X)∧(¬(1≤c.n∧c.n≤4096∧1≤c.sh∧c.sh≤8∧c.sh≤c.n∧1≤c.b∧c.b≤4294967296)→F):=by
  have e1:leI (.ofNat 1) (.ofNat c.b)=decide (1≤c.b):=by rw[leI_eq]; exact decide_eq_decide.2 Int.ofNat_le
  have e2:leI (.ofNat c.b) (.ofNat 4294967296)=decide (c.b≤4294967296):=by rw[leI_eq]; exact decide_eq_decide.2 Int.ofNat_le
  unfold chC
  rw[e1,e2]
  simp only[alt_iff,leI_eq,decide_eq_true_eq,decide_eq_false_iff_not]
  have n1:(Int.ofNat 1≤c.n)=(1≤c.n):=rfl
  have n2:(c.n≤Int.ofNat 4096)=(c.n≤4096):=rfl
  have n3:(Int.ofNat 1≤c.sh)=(1≤c.sh):=rfl
  have n4:(c.sh≤Int.ofNat 8)=(c.sh≤8):=rfl
  rw[n1,n2,n3,n4]
  by_cases h1:1≤c.n<;>by_cases h2:c.n≤4096<;>by_cases h3:1≤c.sh<;>by_cases h4:c.sh≤8<;>by_cases h5:c.sh≤c.n<;>by_cases h6:1≤c.b<;>by_cases h7:c.b≤4294967296<;>simp only[h1,h2,h3,h4,h5,h6,h7,true_imp_iff,false_imp_iff,not_true_eq_false,not_false_eq_true,and_true,true_and,and_false,false_and,and_self]
theorem okCf_iff {c:Cf}:okCf c=true↔c.n≤60∧(1≤c.n∧1≤c.sh∧c.sh≤8∧c.sh≤c.n∧1≤c.b∧c.b≤4294967296)∧c.b≤c.a:=by
  unfold okCf
  rw[Bool.and_eq_true,decide_eq_true_eq]
  cases hs:c.sh with
  | ofNat k =>
    rw[show okNw (.ofNat k) c.a c.b=okNK k c.a c.b from rfl]
    unfold okNK
    rw[decide_eq_true_eq]
    have:=(show Int.ofNat k=(k:Int) from rfl)
    rw[this]
    omega
  | negSucc k =>
    rw[show okNw (.negSucc k) c.a c.b=false from rfl]
    have:Int.negSucc k < 0:=Int.negSucc_lt_zero k
    constructor
    · rintro⟨_,h⟩; cases h
    · rintro⟨_,⟨_,h,_⟩,_⟩; omega
theorem r8s:Tryz.f8.results.toList=rOf 8:=by kernel_rfl
theorem e8b (w:KV) (c:Cf) (z:Nat→Int) (Q:QT) (R:RT):p8b w c z Q R=R (.bool true) [] 76:=by kernel_rfl
attribute [local irreducible] kpre cOf mOf rOf JL krun l8 okNK
theorem j8_of {c:Cf}{z:Nat→Int}{w:KV}(h:∀(Q:QT) (R:RT),(∀ k,R (.bool true) (zsB z) k)→(∀ k,Q .normal [.ptr 1 [] shZ] (zsB z) k)→p8a w c z Q R):JFn Tryz.prog 8 false [c.k,zK z] (.bool true):=by
  refine JFn.of (P:=Tryz.prog) (ok8 (c:=c) (w:=w)) rfl (c:=cOf 8) (mOf 8) Tryz.func8 (by kernel_rfl) fun B N hN=>?_
  have h51:Tryz.f8.ntmps=251:=by kernel_rfl
  rw[h51] at hN
  have h0:fl (cOf 8)=l8:=by kernel_rfl
  rw[h0]
  refine JL.goT (P:=Tryz.prog) (n:=60) (ok8 (c:=c) (w:=w)) rfl 9 (rOf 8) [3] [1] hN (by kernel_rfl) (by kernel_rfl) ?_
  have fin:∀ li os nx,goR Tryz.prog (rOf 8) (mOf 8) li (retJ (E8 c w) Tryz.f8 false (.bool true)) (.bool true) os nx:=by
    rintro li os nx tr zm _ _ _ hr
    exact retJ.mk rfl r8s (FzP.noref rfl) hr
  refine h _ _ (fun k=>fin _ _ _) fun k=>?_
  intro tr zm ht hz hmb hi
  show JL _ _ _ _ _ _ _ _ _
  refine JL.preS (ok8 (c:=c) (w:=w)) (s:=S8 z) (atS.of [] id ht hz (by kernel_rfl) ⟨(RnB.ptr rfl (ltk rfl)).v,trivial⟩ ⟨RnK.nf rfl,trivial⟩) (neN_s (by kernel_rfl)) ?_
  refine JL.goA (P:=Tryz.prog) (n:=60) (ok8 (c:=c) (w:=w)) rfl (rOf 8) [] [] hN (by kernel_rfl) (by kernel_rfl) ?_
  show p8b w c z _ _
  rw[e8b]
  exact fin _ _ _
theorem hdC_of {c:Cf}{T G:Prop}(hT:T) (hG:c.n≤60∨4096 < c.n→G):hdC c T G:=by
  unfold hdC
  simp only[alt_iff,leI_eq,ltI_eq,decide_eq_true_eq,decide_eq_false_iff_not]
  have n1:(Int.ofNat 60 < c.n)=(60 < c.n):=rfl
  have n2:(c.n≤Int.ofNat 4096)=(c.n≤4096):=rfl
  rw[n1,n2]
  exact⟨fun h=>⟨fun _=>hT,fun h=>hG (by omega)⟩,fun h=>hG (by omega)⟩
theorem leN {a b:Nat}:leI (.ofNat a) (.ofNat b)=decide (a≤b):=by rw[leI_eq]; exact decide_eq_decide.2 Int.ofNat_le
theorem j8 (c:Cf) (z:Nat→Int):JFn Tryz.prog 8 false [c.k,zK z] (.bool true):=by
  cases hk:okCf c with
  | true =>
    obtain⟨k1,k2,k3⟩:=okCf_iff.1 hk
    refine j8_of (w:=vOf c) fun Q R hR hQ=>?_
    show p8v c z Q R
    rw[e8v]
    refine hdC_of (hR _) fun hc=>⟨⟨rfl,hc,by unfold opR; rw[hk]; rfl⟩,chC_iff.2 ⟨fun _=>?_,fun h=>absurd ⟨k2.1,by omega,k2.2⟩ h⟩⟩
    simp only[alt_iff,leN,decide_eq_true k3,Bool.not_true,eqI_eq,decide_true]
    refine⟨fun h=>(by cases h),fun _=>⟨fun h=>(by cases h),fun _=>⟨fun _=>⟨fun h=>absurd h (by simp),fun _=>⟨fun h=>?_,fun h=>?_⟩⟩,fun h=>(by cases h)⟩⟩⟩
    · have h:c.n=0:=by simpa using h
      omega
    · obtain⟨n,hn⟩:=Int.eq_ofNat_of_zero_le (by omega:0≤c.n)
      refine⟨n,by rw[hn]; rfl,by omega,?_,fun _=>hQ _⟩
      rw[show c.n.toNat=n by rw[hn]; rfl]
      intro h
      unfold xV at h
      rw[show Nat.beq (pkx .u8 (dgF (hgtF n)) 0 32) (pkx .u8 (dgF (hgtF n)) 0 32)=true from Nat.beq_refl _] at h
      exact absurd h (by decide)
  | false =>
    refine j8_of (w:=zRes) fun Q R hR hQ=>?_
    show p8r c z Q R
    rw[e8r]
    refine hdC_of (hR _) fun hc=>⟨⟨rfl,hc,by unfold opR; rw[hk]; rfl⟩,chC_iff.2 ⟨fun h=>?_,fun h=>hQ _⟩⟩
    have hab:¬ c.b≤c.a∨4096 < c.n:=by
      rcases hc with h1 | h1
      · refine .inl fun h2=>?_
        have:=okCf_iff.2 ⟨h1,⟨h.1,h.2.2⟩,h2⟩
        rw[hk] at this; cases this
      · exact .inr h1
    have hab:¬ c.b≤c.a:=hab.elim (fun h=>h) fun h3=>absurd h.2.1 (by omega)
    unfold rfC
    simp only[alt_iff,leN,decide_eq_false hab,Bool.not_false]
    exact⟨fun h=>(by cases h),fun _=>⟨fun _=>⟨fun h=>(by cases h),fun _=>hQ _⟩,fun h=>(by cases h)⟩⟩
end
end Go.K
namespace Go.K
open Go.Ab Go.RowKit Go.Y Go.Proofs
noncomputable section
attribute [local instance 10000] gO
def s8:KSpec:=sFam (fun x:Cf×(Nat→Int)=>[x.1.k,zK x.2]) (fun _=>True) (fun _=>.bool true)
theorem kcs8:KCS Tryz.prog 8 s8:=kcsFam ⟨Tryz.f8,Tryz.func8,by kernel_rfl,by kernel_rfl⟩ fun x _=>j8 x.1 x.2
end
end Go.K
