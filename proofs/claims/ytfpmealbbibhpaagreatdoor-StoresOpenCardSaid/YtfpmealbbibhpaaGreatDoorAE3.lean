/- AES as contracts of the run: what every use leans on. No condition. -/
import Derived.Test.YtfpmealbbibhpaaGreatDoorAE1
import Derived.Test.YtfpmealbbibhpaaGreatDoorK19
set_option linter.unusedVariables false
set_option linter.unusedSimpArgs false
namespace Go.K
open Go.Ab Go.RowKit Go.Y Go.Proofs
noncomputable section
attribute [local irreducible] krun callR
theorem trN_at (f:Nat→Nat) (z:V):∀ n i,(trN f n).atv (enc i) z=if i < n then .int .u8 (.ofNat (f i)) else z
  | 0,i=>by rw[if_neg (by omega)]; rfl
  | n + 1,i=>by
    show (kset (.int .u8 (.ofNat (f n))) (enc n) (trN f n)).atv (enc i) z=_
    rw[kset_at,trN_at f z n i]
    by_cases h:i=n
    · subst h; rw[if_pos rfl,if_pos (by omega)]; rfl
    · rw[if_neg h]
      by_cases h2:i < n
      · rw[if_pos h2,if_pos (by omega)]
      · rw[if_neg h2,if_neg (by omega)]
theorem by16_v (f:Nat→Nat):(by16 f).v=.arr 16 fun i=>(trN f 16).atv (enc i) (.int .u8 (.ofNat 0)):=rfl
theorem pkg_u8 (x i:Nat):pkg .u8 x i=.ofNat (pkr .u8 x i):=rfl
theorem imp_by16 {x:Nat}{f:Nat→Nat}(h:∀ i,i < 16→pkr .u8 x i=f i):Imp (KV.pk .u8 16 x).v (by16 f).v:=by
  rw[v_pk,by16_v]
  exact Imp.arrE fun i hi=>by rw[trN_at,if_pos hi,pkg_u8,h i hi]
theorem by16_imp {x:Nat}{f:Nat→Nat}(h:∀ i,i < 16→pkr .u8 x i=f i):Imp (by16 f).v (KV.pk .u8 16 x).v:=by
  rw[v_pk,by16_v]
  exact Imp.arrE fun i hi=>by rw[trN_at,if_pos hi,pkg_u8,h i hi]
theorem schT_at (g:Nat→Nat) (z:V):∀ n i,(schT g n).atv (enc i) z=if i < n then (by16 fun j=>g (16 * i + j)).v else z
  | 0,i=>by rw[if_neg (by omega)]; rfl
  | n + 1,i=>by
    show (kset (by16 fun j=>g (16 * n + j)) (enc n) (schT g n)).atv (enc i) z=_
    rw[kset_at,schT_at g z n i]
    by_cases h:i=n
    · subst h; rw[if_pos rfl,if_pos (by omega)]
    · rw[if_neg h]
      by_cases h2:i < n
      · rw[if_pos h2,if_pos (by omega)]
      · rw[if_neg h2,if_neg (by omega)]
def keyN (s:KV) (k:Nat):Nat:=match kidx k s with
  | .pk _ _ x=>x
  | _=>0
def keyOk (s:KV) (k:Nat):Bool:=match kidx k s with
  | .pk kd n _=>nd (ikEq kd .u8) (Nat.beq n 16)
  | _=>false
def keysOk (s:KV):Nat→Bool
  | 0=>true
  | n + 1=>nd (keysOk s n) (keyOk s n)
theorem keysOk_s {s:KV}:∀ {n:Nat},keysOk s n=true→∀ k,k < n→kidx k s=.pk .u8 16 (keyN s k)
  | 0,_,k,hk=>by omega
  | n + 1,h,k,hk=>by
    obtain⟨h1,h2⟩:=nd_iff.1 (show nd (keysOk s n) (keyOk s n)=true from h)
    rcases Nat.lt_or_ge k n with h3 | h3
    · exact keysOk_s h1 k h3
    · obtain rfl:k=n:=by omega
      unfold keyOk at h2
      unfold keyN
      split at h2
      · rename_i kd n x hx
        obtain⟨q1,q2⟩:=nd_iff.1 h2
        obtain rfl:=ikEq_eq q1
        obtain rfl:=beqE q2
        rw[hx]
      · cases h2
def gOf (s:KV) (j:Nat):Nat:=pkr .u8 (keyN s (j / 16)) (j % 16)
theorem imp_sch {d t:KV}(h:keysOk (.ar 11 d t) 11=true):Imp (KV.ar 11 d t).v (schO (gOf (.ar 11 d t))).v:=by
  have h0:=keysOk_s h
  show Imp (V.arr 11 fun i=>t.atv (enc i) d.v) (V.arr 11 fun i=>(schT (gOf (.ar 11 d t)) 11).atv (enc i) (KV.ar 16 (.int .u8 (.ofNat 0)) .te).v)
  refine Imp.arr fun i hi=>?_
  rw[schT_at,if_pos hi]
  have h1:t.atv (enc i) d.v=(KV.pk .u8 16 (keyN (.ar 11 d t) i)).v:=by
    rw[←h0 i hi,kidx_v]; rfl
  rw[h1]
  refine imp_by16 fun j hj=>?_
  show _=pkr .u8 (keyN _ ((16 * i + j) / 16)) ((16 * i + j) % 16)
  rw[show (16 * i + j) / 16=i by omega,show (16 * i + j) % 16=j by omega]
def byN (x i:Nat):Nat:=pkr .u8 x i
def rndP (x N:Nat) (K:Nat→Prop):Prop:=pkK (C.rot (byN x)) 16 fun y=>pkK (fun i=>C.x8 (C.mix (byN y) i) (byN N i)) 16 K
def rdsP (s:KV) (n:Nat) (x:Nat) (K:Nat→Prop):Prop:=@Nat.rec (fun _=>(Nat→Prop)→Prop) (fun K=>K x) (fun n ih K=>ih fun x=>rndP x (keyN s (Nat.succ n)) K) n K
def encP (s:KV) (b:Nat) (K:Nat→Prop):Prop:=pkK (fun i=>C.x8 (byN b i) (byN (keyN s 0) i)) 16 fun x=>rdsP s 9 x fun x=>pkK (fun i=>C.x8 (C.rot (byN x) i) (byN (keyN s 10) i)) 16 K
theorem rot_cg {x y:Nat→Nat}(h:∀ i,i < 16→x i=y i) {i:Nat}(hi:i < 16):C.rot x i=C.rot y i:=by
  unfold C.rot
  rw[fx_eq,fx_eq,h _ (by omega)]
theorem mix_cg {x y:Nat→Nat}(h:∀ i,i < 16→x i=y i) {i:Nat}(hi:i < 16):C.mix x i=C.mix y i:=by
  unfold C.mix
  simp only[fx_eq]
  rw[h _ (show 4 * (i / 4) + (i % 4 + 0) % 4 < 16 by omega),h _ (show 4 * (i / 4) + (i % 4 + 1) % 4 < 16 by omega),h _ (show 4 * (i / 4) + (i % 4 + 2) % 4 < 16 by omega),h _ (show 4 * (i / 4) + (i % 4 + 3) % 4 < 16 by omega)]
theorem gOf_at (s:KV) (k i:Nat) (hi:i < 16):gOf s (16 * k + i)=byN (keyN s k) i:=by
  unfold gOf byN
  rw[show (16 * k + i) / 16=k by omega,show (16 * k + i) % 16=i by omega]
theorem rdsP_s (s:KV) (f:Nat→Nat) (x:Nat) (hx:∀ i,i < 16→byN x i=C.rnd f (gOf s) 0 i):∀(n:Nat) (K:Nat→Prop),rdsP s n x K→∃ y,K y∧∀ i,i < 16→byN y i=C.rnd f (gOf s) n i
  | 0,K,h=>⟨x,h,hx⟩
  | n + 1,K,h=>by
    obtain⟨y,h1,h2⟩:=rdsP_s s f x hx n _ (show rdsP s n x (fun x=>rndP x (keyN s (Nat.succ n)) K) from h)
    unfold rndP at h1
    rw[pkK_eq,pkK_eq] at h1
    refine⟨_,h1,fun i hi=>?_⟩
    show pkr .u8 _ i=_
    rw[pkr_pkA (fun i=>x8_lt _ _) hi]
    show C.x8 (C.mix (byN (pkA (C.rot (byN y)) 16)) i) (byN (keyN s (n + 1)) i)=C.x8 (C.mix (C.rot (C.rnd f (gOf s) n)) i) (gOf s (16 * (n + 1) + i))
    rw[gOf_at s (n + 1) i hi,mix_cg (y:=C.rot (C.rnd f (gOf s) n)) (fun j hj=>?_) hi]
    show pkr .u8 _ j=_
    rw[pkr_pkA (h:=C.rot (byN y)) (fun i=>sub_lt _) hj]
    exact rot_cg h2 hj
theorem encP_s {s:KV}{b:Nat}{K:Nat→Prop}(h:encP s b K):∃ z,K z∧∀ i,i < 16→pkr .u8 z i=C.enc (byN b) (gOf s) i:=by
  unfold encP at h
  rw[pkK_eq] at h
  obtain⟨y,h1,h2⟩:=rdsP_s s (byN b) _ (fun i hi=>by
    show pkr .u8 _ i=_
    rw[pkr_pkA (fun i=>x8_lt _ _) hi]
    show C.x8 (byN b i) (byN (keyN s 0) i)=C.x8 (byN b i) (gOf s i)
    have:=gOf_at s 0 i hi
    rw[Nat.mul_zero,Nat.zero_add] at this
    rw[this]) 9 _ h
  rw[pkK_eq] at h1
  refine⟨_,h1,fun i hi=>?_⟩
  rw[pkr_pkA (fun i=>x8_lt _ _) hi]
  show C.x8 (C.rot (byN y) i) (byN (keyN s 10) i)=C.x8 (C.rot (C.rnd (byN b) (gOf s) 9) i) (gOf s (160 + i))
  rw[rot_cg h2 hi]
  have:=gOf_at s 10 i hi
  rw[this]
end
end Go.K
