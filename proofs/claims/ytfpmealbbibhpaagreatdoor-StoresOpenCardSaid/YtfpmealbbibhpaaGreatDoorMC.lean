/- The cipher's tables as contracts. No condition. -/
import Derived.Test.YtfpmealbbibhpaaGreatDoorMS0
import Derived.Test.YtfpmealbbibhpaaGreatDoorMM0
set_option linter.unusedVariables false
namespace Go.K
open Go.Ab Go.RowKit Go.Y Go.Proofs
noncomputable section
attribute [local irreducible] krun callR
theorem of_grp {P:Nat→Prop}{a m:Nat}(h:allPN (fun t=>P (a + t)) m) {n:Nat}(h1:a≤n) (h2:n < a + m):P n:=by
  have:=allPN_lt h (n - a) (by omega)
  rwa [show a + (n - a)=n by omega] at this
theorem psub_all:∀ n,n < 256→Psub n:=by
  have key:∀ k,k < 8→∀ n,32 * k≤n→n < 32 * k + 32→Psub n
    | 0,_,n,h1,h2=>of_grp ps_0 h1 h2
    | 1,_,n,h1,h2=>of_grp ps_32 h1 h2
    | 2,_,n,h1,h2=>of_grp ps_64 h1 h2
    | 3,_,n,h1,h2=>of_grp ps_96 h1 h2
    | 4,_,n,h1,h2=>of_grp ps_128 h1 h2
    | 5,_,n,h1,h2=>of_grp ps_160 h1 h2
    | 6,_,n,h1,h2=>of_grp ps_192 h1 h2
    | 7,_,n,h1,h2=>of_grp ps_224 h1 h2
    | k + 8,h,_,_,_=>absurd h (by omega)
  exact fun n h=>key (n / 32) (by omega) n (by omega) (by omega)
theorem pmul_all:∀ n,n < 1024→Pmul n:=by
  have key:∀ k,k < 8→∀ n,128 * k≤n→n < 128 * k + 128→Pmul n
    | 0,_,n,h1,h2=>of_grp pm_0 h1 h2
    | 1,_,n,h1,h2=>of_grp pm_128 h1 h2
    | 2,_,n,h1,h2=>of_grp pm_256 h1 h2
    | 3,_,n,h1,h2=>of_grp pm_384 h1 h2
    | 4,_,n,h1,h2=>of_grp pm_512 h1 h2
    | 5,_,n,h1,h2=>of_grp pm_640 h1 h2
    | 6,_,n,h1,h2=>of_grp pm_768 h1 h2
    | 7,_,n,h1,h2=>of_grp pm_896 h1 h2
    | k + 8,h,_,_,_=>absurd h (by omega)
  exact fun n h=>key (n / 128) (by omega) n (by omega) (by omega)
theorem csub (n:Nat) (h:Psub n):KCS E1.P 314 (kcon [.int .u8 (.ofNat n)] (.int .u8 (.ofNat (pkr .u8 sbN n)))):=by
  unfold Psub at h
  exact kcon_s ok1 h rfl rfl
theorem cmul (n:Nat) (h:Pmul n):KCS E1.P 329 (kcon [.int .u8 (.ofNat (n / 256)),.int .u8 (.ofNat (n % 256))] (.int .u8 (.ofNat (pkr .u8 mtN n)))):=by
  unfold Pmul at h
  exact kcon_s ok1 h rfl rfl
theorem kcsSub:KCS E1.P 314 (sTab1 sbN):=sTab1_s fun n hn=>csub n (psub_all n hn)
theorem kcsMul:KCS E1.P 329 (sTab2 4 mtN):=sTab2_s (by decide) fun n hn=>cmul n (pmul_all n hn)
end
end Go.K
