/- Arguments of the laws, opened as data. No condition. -/
import Derived.Test.YtkllahedaiddgaaGreatDoorOD
import Derived.Test.YtkllahedaiddgaaGreatDoorUG5
set_option linter.unusedSimpArgs false
set_option linter.unusedVariables false
set_option maxRecDepth 100000
namespace Go.K
open Go.Ab Go.RowKit Go.Y Go.Proofs
noncomputable section
attribute [local instance 10000] gO
def Xh:Ty:=.int .u8
def tyI:Ty:=.int .i64
def zf8:Ty:=.ar 2 Xh
def tyM:Ty:=.cons Xh (.cons (.sl zf8) (.cons (.sl Xh) .nl))
def tyS:Ty:=.cons tyM (.cons (.sl zf8) .nl)
def zC8:Ty:=.cons Xh (.cons (.cons (.int .u32) (.cons (.int .u64) .nl)) (.cons (.ar 32 Xh) .nl))
def zC9:Ty:=.cons Xh (.cons (.ar 32 Xh) .nl)
def zDa:Ty:=.cons Xh (.cons (.int .u32) (.cons (.ar 4 zC8) (.cons (.ar 4 zC9) .nl)))
def zrN:Ty:=.cons zDa (.cons tyI (.cons .bool (.cons (.ar 4 .bool) .nl)))
def tyZ:Ty:=.cons zrN (.cons tyI (.cons Xh (.cons tyI .nl)))
theorem J0 {v:KV}(h:Xh.is v):∃ a,v=kU8 a∧a < 256:=by
 obtain⟨z,rfl,hw⟩:=h
 have:=bounds_u8 hw
 obtain⟨n,rfl⟩:∃ n:Nat,z=.ofNat n:=⟨z.toNat,by show z=((z.toNat:Nat):Int); omega⟩
 refine⟨n,rfl,?_⟩
 have h2:((n:Nat):Int)≤255:=this.2
 omega
theorem znW {v:KV}(h:(Ty.int .u32).is v):∃ a,v=yH a∧a < 4294967296:=by
 obtain⟨z,rfl,hw⟩:=h
 have:=bounds_u32 hw
 obtain⟨n,rfl⟩:∃ n:Nat,z=.ofNat n:=⟨z.toNat,by show z=((z.toNat:Nat):Int); omega⟩
 refine⟨n,rfl,?_⟩
 have h2:((n:Nat):Int)≤4294967295:=this.2
 omega
theorem zx6 {v:KV}(h:(Ty.int .u64).is v):∃ a,v=YA a∧a < 18446744073709551616:=by
 obtain⟨z,rfl,hw⟩:=h
 have:=bounds_u64 hw
 obtain⟨n,rfl⟩:∃ n:Nat,z=.ofNat n:=⟨z.toNat,by show z=((z.toNat:Nat):Int); omega⟩
 refine⟨n,rfl,?_⟩
 have h2:((n:Nat):Int)≤18446744073709551615:=this.2
 omega
theorem chA {α:Type} [Inhabited α] {n:Nat}{Q:Nat→α→Prop}(h:∀ i,i < n→∃ v,Q i v):∃ f:Nat→α,∀ i,i < n→Q i (f i):=by
 classical
 exact⟨fun i=>if hi:i < n then Classical.choose (h i hi) else default,fun i hi=>by simp only[dif_pos hi]; exact Classical.choose_spec (h i hi)⟩
theorem VF {n:Nat}{d:KV}{f g:Nat→KV}(h:∀ i,i < n→Imp (f i).v (g i).v):Imp (KV.fa n f).v (kAr n d g).v:=Imp.arr fun i hi=>by
 refine Eq.mpr (congrArg (fun a=>Imp (f i).v a) (wu (f:=g) (z:=d.v) hi)) (h i hi)
theorem zx7 {n:Nat}{f g:Nat→KV}(h:∀ i,i < n→Imp (f i).v (g i).v):Imp (KV.fa n f).v (KV.fa n g).v:=Imp.arr h
theorem zrO {u c:Bool}{e:Shape}{n:Nat}{f g:Nat→V}(h:∀ i,i < n→Imp (f i) (g i)):Imp (.ro u c e n f) (.ro u c e n g):=by
 intro C m hr
 obtain⟨a,k,h1,h2,h3,h4⟩:=hr
 exact⟨a,k,h1,h2,h3,h4.imp (fun h=>h) fun⟨b,o,q1,q2,q3⟩=>⟨b,o,q1,q2,fun i hi=>h i hi _ _ (q3 i hi)⟩⟩
theorem znX {s:Shape}{n:Nat}{f g:Nat→KV}(h:∀ i,i < n→Imp (f i).v (g i).v):Imp (KV.ro true false s 0 n (.fa n f)).v (roK s n g).v:=zrO fun i hi=>by
 show Imp (f (0 + i)).v (g (0 + i)).v
 rw[Nat.zero_add]; exact h i hi
theorem zty {n:Nat}{v:KV}(h:(Ty.ar n Xh).is v):∃ l:List Nat,l.length=n∧(∀ b∈l,b < 256)∧Imp v.v (kBy n (nN l)).v:=by
 obtain⟨f,rfl,hf⟩:=h
 obtain⟨g,hg⟩:=chA (Q:=fun i a=>f i=kU8 a∧a < 256) fun i hi=>J0 (hf i hi)
 refine⟨lsF n g,wt _,Xd fun i hi=>(hg i hi).2,VF fun i hi=>?_⟩
 rw[(hg i hi).1,JJ hi]; exact Imp.refl _
instance:Inhabited Rc:=⟨⟨0,0,0,[]⟩⟩
instance:Inhabited En:=⟨⟨0,[]⟩⟩
instance:Inhabited Nd:=⟨⟨0,0,fun _=>default,fun _=>default⟩⟩
instance:Inhabited Un:=⟨⟨default,0,false,fun _=>false⟩⟩
theorem zDb {v:KV}(h:zC8.is v):∃ x:Rc,x.tg.length=32∧x.wb∧Imp v.v x.k.v:=by
 obtain⟨a,r,rfl,ha,b,q,rfl,⟨s,t,rfl,hs,w,y,rfl,hw,rfl⟩,c,z,rfl,hc,rfl⟩:=h
 obtain⟨a,rfl,la⟩:=J0 ha
 obtain⟨s,rfl,ls⟩:=znW hs
 obtain⟨w,rfl,lw⟩:=zx6 hw
 obtain⟨l,h1,h2,h3⟩:=zty hc
 exact⟨⟨a,s,w,l⟩,h1,⟨la,ls,lw,h2⟩,Imp.cons (Imp.refl _) (Imp.cons (Imp.refl _) (Imp.cons h3 (Imp.refl _)))⟩
theorem zDc {v:KV}(h:zC9.is v):∃ x:En,x.dg.length=32∧x.wb∧Imp v.v x.k.v:=by
 obtain⟨a,r,rfl,ha,c,z,rfl,hc,rfl⟩:=h
 obtain⟨a,rfl,la⟩:=J0 ha
 obtain⟨l,h1,h2,h3⟩:=zty hc
 exact⟨⟨a,l⟩,h1,⟨la,h2⟩,Imp.cons (Imp.refl _) (Imp.cons h3 (Imp.refl _))⟩
theorem zDd {v:KV}(h:zDa.is v):∃ x:Nd,x.wl∧x.wb∧Imp v.v x.k.v:=by
 obtain⟨a,r,rfl,ha,b,q,rfl,hb,c,z,rfl,⟨f,rfl,hf⟩,d,w,rfl,⟨g,rfl,hg⟩,rfl⟩:=h
 obtain⟨a,rfl,la⟩:=J0 ha
 obtain⟨b,rfl,lb⟩:=znW hb
 obtain⟨rc,hr⟩:=chA (Q:=fun i (x:Rc)=>x.tg.length=32∧x.wb∧Imp (f i).v x.k.v) fun i hi=>zDb (hf i hi)
 obtain⟨en,he⟩:=chA (Q:=fun i (x:En)=>x.dg.length=32∧x.wb∧Imp (g i).v x.k.v) fun i hi=>zDc (hg i hi)
 exact⟨⟨a,b,rc,en⟩,⟨fun i hi=>(hr i hi).1,fun i hi=>(he i hi).1⟩,⟨la,lb,fun i hi=>(hr i hi).2.1,fun i hi=>(he i hi).2.1⟩,
  Imp.cons (Imp.refl _) (Imp.cons (Imp.refl _) (Imp.cons (VF fun i hi=>(hr i hi).2.2) (Imp.cons (VF fun i hi=>(he i hi).2.2) (Imp.refl _))))⟩
theorem zDe {v:KV}(h:zrN.is v):∃ x:Un,x.nd.wl∧x.nd.wb∧Imp v.v x.k.v:=by
 obtain⟨a,r,rfl,ha,b,q,rfl,⟨z,rfl,hz⟩,c,s,rfl,⟨d,rfl⟩,e,t,rfl,⟨f,rfl,hf⟩,rfl⟩:=h
 obtain⟨x,h1,h2,h3⟩:=zDd ha
 obtain⟨g,hg⟩:=chA (Q:=fun i (b:Bool)=>f i=.bool b) fun i hi=>hf i hi
 refine⟨⟨x,z,d,g⟩,h1,h2,Imp.cons h3 (Imp.cons (Imp.refl _) (Imp.cons (Imp.refl _) (Imp.cons (VF fun i hi=>?_) (Imp.refl _))))⟩
 rw[hg i hi]; exact Imp.refl _
theorem zDf {v:KV}(h:zf8.is v):∃ f:Nat→Nat,(∀ j,f j < 256)∧Imp v.v (KV.fa 2 fun j=>kU8 (f j)).v:=by
 obtain⟨f,rfl,hf⟩:=h
 obtain⟨g,hg⟩:=chA (Q:=fun i a=>f i=kU8 a∧a < 256) fun i hi=>J0 (hf i hi)
 refine⟨fun j=>if j < 2 then g j else 0,fun j=>?_,zx7 fun j hj=>?_⟩
 ·show (if j < 2 then g j else 0) < 256
  split
  ·rename_i h; exact (hg j h).2
  ·omega
 ·rw[(hg j hj).1]
  show Imp (kU8 (g j)).v (kU8 (if j < 2 then g j else 0)).v
  rw[if_pos hj]; exact Imp.refl _
theorem znY {v:KV}(h:(Ty.sl zf8).is v):∃(n:Nat) (f:Nat→Nat→Nat),(∀ i j,f i j < 256)∧Imp v.v (roK (.arr 2 .sc) n fun i=>.fa 2 fun j=>kU8 (f i j)).v:=by
 obtain⟨n,f,rfl,hf⟩:=h
 obtain⟨g,hg⟩:=chA (Q:=fun i (a:Nat→Nat)=>(∀ j,a j < 256)∧Imp (f i).v (KV.fa 2 fun j=>kU8 (a j)).v) fun i hi=>zDf (hf i hi)
 refine⟨n,fun i=>if i < n then g i else fun _=>0,fun i j=>?_,znX fun i hi=>?_⟩
 ·show (if i < n then g i else fun _=>0) j < 256
  split
  ·rename_i h; exact (hg i h).1 j
  ·exact Nat.zero_lt_succ _
 ·show Imp (f i).v (KV.fa 2 fun j=>kU8 ((if i < n then g i else fun _=>0) j)).v
  rw[if_pos hi]; exact (hg i hi).2
theorem zx8 {v:KV}(h:(Ty.sl Xh).is v):∃(n:Nat) (f:Nat→Nat),(∀ i,f i < 256)∧Imp v.v (roK .sc n fun i=>kU8 (f i)).v:=by
 obtain⟨n,f,rfl,hf⟩:=h
 obtain⟨g,hg⟩:=chA (Q:=fun i a=>f i=kU8 a∧a < 256) fun i hi=>J0 (hf i hi)
 refine⟨n,fun i=>if i < n then g i else 0,fun i=>?_,znX fun i hi=>?_⟩
 ·show (if i < n then g i else 0) < 256
  split
  ·rename_i h; exact (hg i h).2
  ·omega
 ·rw[(hg i hi).1]
  show Imp (kU8 (g i)).v (kU8 (if i < n then g i else 0)).v
  rw[if_pos hi]; exact Imp.refl _
theorem zF1 {v:KV}(h:tyM.is v):∃ x:Md,x.nb < 256∧(∀ i j,x.pp i j < 256)∧(∀ i,x.ss i < 256)∧Imp v.v x.k.v:=by
 obtain⟨a,r,rfl,ha,b,q,rfl,hb,c,s,rfl,hc,rfl⟩:=h
 obtain⟨a,rfl,la⟩:=J0 ha
 obtain⟨n,f,h1,h2⟩:=znY hb
 obtain⟨m,g,h3,h4⟩:=zx8 hc
 exact⟨⟨a,n,f,m,g⟩,la,h1,h3,Imp.cons (Imp.refl _) (Imp.cons h2 (Imp.cons h4 (Imp.refl _)))⟩
theorem zF2 {v:KV}(h:tyS.is v):∃ x:Sd,preS x∧Imp v.v x.k.v:=by
 obtain⟨a,r,rfl,ha,b,q,rfl,hb,rfl⟩:=h
 obtain⟨t,h1,h2,h3,h4⟩:=zF1 ha
 obtain⟨n,f,h5,h6⟩:=znY hb
 exact⟨⟨t,n,f⟩,⟨h1,h5⟩,Imp.cons h4 (Imp.cons h6 (Imp.refl _))⟩
section
variable {H:Type}{enc:TypeId×Value→H}{P:Program}{W:World}{base:Nat}{sp:Nat→Bool}{held:Bool}
def OpV (W:World) (T:Ty) (x:Value):Prop:=∃ v,T.is v∧∀ C,zgb W C→RR v.v C (.val x)
theorem znZ {a b:Ty}{t:TypeId}{cs:Array Value}{fuel:Nat}{x:DataW H×List MemPlace}(h1:((Ty.cons a b).ok P).1 t=true) (h2:DataW.trod enc P W base sp held fuel t cs.toList=some x) (hc:cs.size=a.sh.size + b.sh.size):OpV W (.cons a b) (.agg cs):=by
 obtain⟨v,h3,h4⟩:=(opT (.cons a b)).1 t cs.toList fuel x h1 h2
 refine⟨v,h3,fun C hC=>?_⟩
 obtain⟨p,q,rfl,_,_⟩:=h3
 obtain⟨s1,s2,e,q1,q2⟩:=h4 C (fun i=>cs[i]?) 0 hC (fun i hi=>by simp)
 have e':Shape.cons a.sh b.sh=Shape.cons s1 s2:=e
 cases e'
 refine⟨cs,a.sh,b.sh,rfl,hc,q1,?_⟩
 simp only[Nat.zero_add] at q2
 exact q2
end
end
end Go.K
