/- digests.Compress of arrays of any words: what is handed back is not looked into. No condition. derives.Volume of any master: keys that are not looked into. No condition. Working trees of fresh volumes of at most 60 blocks: what is handed back. No condition. -/
import Derived.Test.YtfpmealbbibhpaaGreatDoorLC1
import Derived.Test.YtfpmealbbibhpaaGreatDoorKL0
import Derived.Test.YtfpmealbbibhpaaGreatDoorAS7
import Derived.Test.YtfpmealbbibhpaaGreatDoorK29
set_option linter.unusedVariables false
set_option linter.unusedSimpArgs false
set_option maxRecDepth 100000
namespace Go.K
open Go.Ab Go.RowKit Go.Y Go.Proofs
noncomputable section
def isI (k:IntKind) (x:KV):Bool:=match x with
  | .int k' a=>nd (ikEq k' k) (@Int.rec (fun _=>Bool) (fun _=>true) (fun _=>false) a)
  | _=>false
theorem isI_s {k:IntKind}{x:KV}(h:isI k x=true):Go.Y.isW k x.v=true:=by
  unfold isI at h
  split at h
  · obtain⟨h1,h2⟩:=nd_iff.1 h
    rename_i a
    cases a with
    | ofNat n=>exact h1
    | negSucc n=>cases h2
  · cases h
def allI (f:Nat→Bool) (n:Nat):Bool:=@Nat.rec (fun _=>Bool) true (fun i ih=>nd (f i) ih) n
theorem allI_s {f:Nat→Bool}:∀ {n:Nat},allI f n=true→∀ i,i < n→f i=true
  | 0,_,i,h=>absurd h (by omega)
  | n + 1,h,i,hi=>by
    obtain⟨h1,h2⟩:=nd_iff.1 (show nd (f n) (allI f n)=true from h)
    by_cases he:i=n
    · subst he; exact h1
    · exact allI_s h2 i (by omega)
def isA (k:IntKind) (n:Nat) (x:KV):Bool:=nd (arK x) (nd (Nat.beq (arZ x) n) (allI (fun i=>isI k (kidx i x)) n))
theorem isA_s {k:IntKind}{n:Nat}{x:KV}(h:isA k n x=true):∃ f,x.v=.arr n f∧allW k n f=true∧∀ i,f i=(kidx i x).v:=by
  obtain⟨h1,h2⟩:=nd_iff.1 h
  obtain⟨h3,h4⟩:=nd_iff.1 h2
  obtain⟨m,f,hv,hf⟩:=arK_s h1
  obtain rfl:=(arZ_s h1 hv).symm.trans (beqE h3)
  refine⟨f,hv,List.all_eq_true.2 fun i hi=>?_,hf⟩
  rw[hf i]
  exact isI_s (allI_s h4 i (List.mem_range.1 hi))
def ntK (x:KV) (i:Nat):Nat:=natOf (kidx i x).v
def cwF (x y:KV) (i:Nat):Nat:=S.comp (ntK x) (ntK y) i
def trF (f:Nat→KV) (n:Nat):KV:=@Nat.rec (fun _=>KV) .te (fun i t=>kset (f i) (enc i) t) n
theorem trF_at {f:Nat→KV}{z:V}:∀ {n i:Nat},i < n→(trF f n).atv (enc i) z=(f i).v
  | 0,i,h=>absurd h (by omega)
  | n + 1,i,h=>by
    show (kset (f n) (enc n) (trF f n)).atv (enc i) z=_
    rw[kset_at]
    by_cases he:i=n
    · rw[if_pos he,he]
    · rw[if_neg he]; exact trF_at (by omega)
theorem trF_imp {n:Nat}{d:KV}{f:Nat→KV}{g:Nat→V}(h:∀ i,i < n→g i=(f i).v):Imp (.arr n g) (KV.ar n d (trF f n)).v :=
  Imp.arrE fun i hi=>by rw[h i hi]; exact (trF_at hi).symm
def sCompO:KSpec:=fun l K=>la2 l fun x y=>chk (isA .u32 8 x) 900 (chk (isA .u8 64 y) 901 (K (.ar 8 (.int .u32 (.ofNat 0)) (trF (fun i=>.int .u32 (.ofNat (cwF x y i))) 8))))
theorem kcs273o:KCS Tryz.prog 273 sCompO:=by
  have hc:=csg k242_ok
  refine⟨hc.1,fun l K hs=>?_⟩
  obtain⟨x,y,rfl,h1⟩:=la2_s hs
  obtain⟨h2,h3⟩:=chk_inv h1
  obtain⟨h4,h5⟩:=chk_inv h3
  obtain⟨f,hf,hfa,hfi⟩:=isA_s h2
  obtain⟨g,hg,hga,hgi⟩:=isA_s h4
  refine⟨_,h5,fun B μ nx mx l0 hl=>?_⟩
  have hcall:=con_call (B:=B) (μ:=μ) (nx:=nx) (mx:=mx) gnL hc rfl hl (by
    rw[unL_mkL,List.map_cons,List.map_cons,List.map_nil,hf,hg]
    show (allW .u32 8 f&&allW .u8 64 g)=true
    rw[hfa,hga]; rfl)
  rw[unL_mkL,List.map_cons,List.map_cons,List.map_nil,hf,hg] at hcall
  refine hcall.imp ?_ (MImp.refl _) (Nat.le_refl _) (Nat.le_refl _)
  refine trF_imp fun i hi=>?_
  show wV .u32 (S.comp (fun i=>natOf (f i)) (fun i=>natOf (g i)) i)=_
  rw[show (fun i=>natOf (f i))=ntK x from funext fun i=>by rw[hfi i]; rfl,show (fun i=>natOf (g i))=ntK y from funext fun i=>by rw[hgi i]; rfl]
  rfl
end
end Go.K
set_option maxRecDepth 100000
namespace Go.K
open Go.Ab Go.RowKit Go.Y Go.Proofs
noncomputable section
attribute [local instance 10000] gO
def E116:KEnv:=EO0.tab [(273,sCompO)]
theorem ok116:KOk E116:=okO0.tab ⟨kcs273o.opn,trivial⟩
def msK (m:Nat→Nat):KV:=.ar 32 (.int .u8 (.ofNat 0)) (trF (fun i=>.int .u8 (.ofNat (m i))) 32)
def isKeys (r:KV):Bool:=match r with
  | .cons a (.cons b .nl)=>nd (isA .u8 16 a) (isA .u8 32 b)
  | _=>false
def p116 (m:Nat→Nat):Prop:=callR E116 (krun E116 100000) 0 116 [msK m] .e 0 0 fun r _ _ _=>tK (isKeys r)
def kyK:KV:=.cons (.ar 16 .unk .te) (.cons (.ar 32 .unk .te) .nl)
theorem unk_of {C:Ctx}{m:Ab.M}{x:Value}(h:m.leaf x) (ho:x.oneCell'=true):R C .unk m:=by
  cases m with
  | cel s g off=>exact⟨h.1,x,h.2,ho⟩
  | val v=>trivial
  | list l=>exact h.elim
theorem isA_unk {k:IntKind}{n:Nat}{x:KV}(h:isA k n x=true):Imp x.v (KV.ar n .unk .te).v:=by
  obtain⟨f,hv,ha,_⟩:=isA_s h
  rw[hv]
  refine Imp.arr fun i hi=>?_
  have h1:=isW_eq (List.all_eq_true.1 ha i (List.mem_range.2 hi))
  rw[h1]
  exact fun C m hr=>unk_of (x:=.int k _) hr rfl
theorem Imp.both {a b a' b':V}(h1:Imp a a') (h2:Imp b b'):Imp (.cons a b) (.cons a' b'):=fun C m hr=>by
  cases m with
  | cel s g off=>obtain⟨p,q,e,r1,r2⟩:=hr; exact⟨p,q,e,h1 _ _ r1,h2 _ _ r2⟩
  | val v=>obtain⟨cs,p,q,e,e2,r1,r2⟩:=hr; exact⟨cs,p,q,e,e2,h1 _ _ r1,h2 _ _ r2⟩
  | list l=>obtain⟨x,xs,e,r1,r2⟩:=hr; exact⟨x,xs,e,h1 _ _ r1,h2 _ _ r2⟩
theorem isKeys_s {r:KV}(h:isKeys r=true):Imp r.v kyK.v:=by
  unfold isKeys at h
  split at h
  · obtain⟨h1,h2⟩:=nd_iff.1 h
    rename_i a b
    have k1:=isA_unk h1
    have k2:=isA_unk h2
    exact Imp.both k1 (Imp.both k2 (Imp.refl _))
  · cases h
def sVol:KSpec:=fun l K=>∃ m:Nat→Nat,l=[msK m]∧K kyK
end
attribute [local irreducible] krun callR cwF
theorem e116 (m:Nat→Nat):p116 m=True:=by kernel_rfl
attribute [local instance 10000] gO
theorem kcs116:@KCS gO Tryz.prog 116 sVol:=by
  refine kcsP ⟨Tryz.f116,Tryz.func116,by kernel_rfl,by kernel_rfl⟩ fun l K hs=>?_
  obtain⟨m,rfl,hk⟩:=hs
  exact⟨E116,ok116,rfl,100000,fun r=>tK (isKeys r),kyK,hk,rfl,fun r hr=>isKeys_s (tK_s hr),Eq.mpr (e116 m) trivial⟩
end Go.K
namespace Go.K
open Go.Ab Go.RowKit Go.Y Go.Proofs
noncomputable section
def recZ:KV:=.cons (.int .u8 (.ofNat 0)) (.cons (.cons (.int .u32 (.ofNat 0)) (.cons (.int .u64 (.ofNat 0)) .nl)) (.cons (.pk .u8 32 0) .nl))
def entZ:KV:=.cons (.int .u8 (.ofNat 0)) (.cons (.pk .u8 32 0) .nl)
def wnK (l i s:Nat) (r e:KV):KV:=.cons (.cons (.int .u8 (.ofNat l)) (.cons (.int .u32 (.ofNat i)) (.cons (.ar 4 recZ r) (.cons (.ar 4 entZ e) .nl)))) (.cons (.int .i64 (.ofNat s)) (.cons (.bool false) (.cons (.ar 4 (.bool false) .te) .nl)))
def c0F (n:Nat):Nat:=(n + 3) / 4
def c1F (n:Nat):Nat:=bsel (Nat.ble n 4) 0 ((c0F n + 3) / 4)
def totF (n:Nat):Nat:=c0F n + (c1F n + bsel (Nat.ble n 16) 0 1)
def rtF (h:Nat):KV:=@Nat.rec (fun _=>KV) (wnK 0 0 0 (trF (fun _=>recZ) 4) .te) (fun h _=>wnK (h + 1) 0 0 .te (trF (fun _=>entZ) 4)) h
def ndF (n k:Nat):KV:=bsel (Nat.beq (k + 1) (totF n)) (rtF (hgtF n)) (bsel (Nat.blt k (c0F n)) (wnK 0 k 1 .te .te) (wnK 1 (k - c0F n) 1 .te .te))
def shW:Shape:=.cons (.cons .sc (.cons .sc (.cons (.arr 4 (.cons .sc (.cons (.cons .sc (.cons .sc .nl)) (.cons (.arr 32 .sc) .nl)))) (.cons (.arr 4 (.cons .sc (.cons (.arr 32 .sc) .nl))) .nl)))) (.cons .sc (.cons .sc (.cons (.arr 4 .sc) .nl)))
def wtF (n:Nat):KV:=.cons (.int .i64 (.ofNat n)) (.cons (.ro true true shW 0 (totF n) (.ar (totF n) (wnK 0 0 0 .te .te) (trF (ndF n) (totF n)))) .nl)
def wkF (n:Nat):KV:=.tup (.cons (wtF n) (.cons (.cons (.int .i64 (.ofNat 0)) (.cons (.int .u8 (.ofNat 0)) .nl)) (.cons (.int .i64 (.ofNat 0)) .nl)))
def q35 (E:KEnv) (n:Nat):Prop:=callR E (krun E 1000000) 0 35 [.int .i64 (.ofNat n),dskF n,celF n] .e 0 0 fun r zm _ _=>tK (fzB zm 60 r (wkF n))
end
end Go.K
