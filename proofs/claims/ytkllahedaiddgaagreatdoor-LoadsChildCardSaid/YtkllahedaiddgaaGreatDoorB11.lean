/- A region of operations, in whatever order its edges allow. No condition. -/
import Derived.Test.YtkllahedaiddgaaGreatDoorB8
import Derived.Orders
set_option linter.unusedSimpArgs false
set_option linter.unusedVariables false
namespace Go.Ab
open Go.RowKit
variable [Gl]
structure TE where
 o:Oper
 e:Eff
 n:Nat
 sk:Bool
section
variable {K X:Type}(wr:TE→K→Option X) (base:K→X)
def look (S:Nat→Bool):List TE→K→X
 | [],k=>base k
 | te::r,k=>if S r.length then (wr te k).getD (look S r k) else look S r k
def xH (te:TE) (k:Nat):Bool:=te.o.after.any fun e=>Region.binds .any e&&e.on==k
def Apart (uses:TE→K→Prop) (ed:TE→Nat→Bool):List TE→Prop
 | []=>True
 | te::r=>Apart uses ed r∧∀(l:List TE) (te':TE) (r':List TE),r=l++te'::r' →
   (∃ k,((wr te' k).isSome∧((wr te k).isSome∨uses te k))∨(uses te' k∧(wr te k).isSome))→ed te r'.length=true
variable {wr base}
omit [Gl] in
theorem YP (S:Nat→Bool) {k:K}:∀(r:List TE),(∀(l:List TE) (te:TE) (r':List TE),r=l++te::r'→(wr te k).isSome→S r'.length=true)→look wr base S r k=look wr base (fun _=>true) r k
 | [],_=>rfl
 | te::r,h=>by
  have ih:=YP S r fun l te' r' e=>h (te::l) te' r' (by rw[e]; rfl)
  simp only[look,if_true]
  rw[ih]
  by_cases hs:S r.length=true
  ·rw[if_pos hs]
  ·rw[if_neg hs]
   cases hw:wr te k with
   | none=>rfl
   | some x=>exact absurd (h [] te r rfl (by rw[hw]; rfl)) hs
omit [Gl] in
theorem Qp (S:Nat→Bool) {k:K}{r:List TE}:∀(l:List TE),(∀(l1:List TE) (te:TE) (l2:List TE),l=l1++te::l2→(wr te k).isSome→S (l2++r).length=false)→look wr base S (l++r) k=look wr base S r k
 | [],_=>rfl
 | te::l,h=>by
  have ih:=Qp S (r:=r) l fun l1 te' l2 e=>h (te::l1) te' l2 (by rw[e]; rfl)
  simp only[List.cons_append,look]
  rw[ih]
  by_cases hs:S (l++r).length=true
  ·rw[if_pos hs]
   cases hw:wr te k with
   | none=>rfl
   | some x=>have:=h [] te l rfl (by rw[hw]; rfl); rw[this] at hs; cases hs
  ·rw[if_neg hs]
def xQ (S:Nat→Bool) (ed:TE→Nat→Bool) (tr:List TE):Prop:=∀(l:List TE) (te:TE) (r:List TE),tr=l++te::r→S r.length=true→∀ k,k < r.length→ed te k=true→S k=true
omit [Gl] in
theorem Apart.pair {uses:TE→K→Prop}{ed:TE→Nat→Bool}:∀ {l:List TE}{te:TE}{l2:List TE}{te':TE}{r:List TE},Apart wr uses ed (l++te::(l2++te'::r)) →
  (∃ k,((wr te' k).isSome∧((wr te k).isSome∨uses te k))∨(uses te' k∧(wr te k).isSome))→ed te r.length=true
 | [],te,l2,te',r,h,hk=>h.2 l2 te' r rfl hk
 | _::l,te,l2,te',r,h,hk=>Apart.pair (l:=l) h.1 hk
omit [Gl] in
theorem yM {uses:TE→K→Prop}{ed:TE→Nat→Bool}{S:Nat→Bool}{l:List TE}{te:TE}{r:List TE}(ha:Apart wr uses ed (l++te::r)) (hc:xQ S ed (l++te::r)) (hn:S r.length=false)
  (hd:∀ k,k < r.length→ed te k=true→S k=true) {k:K}(hk:uses te k∨(wr te k).isSome):look wr base S (l++te::r) k=look wr base (fun _=>true) r k:=by
 rw[Qp S l (r:=te::r)]
 ·simp only[look,hn,Bool.false_eq_true,if_false]
  refine YP S r fun l2 te' r' e hw=>?_
  subst e
  have:=Apart.pair (l:=l) (te:=te) (l2:=l2) (te':=te') (r:=r') ha ⟨k,.inl ⟨hw,hk.symm⟩⟩
  exact hd _ (by simp; omega) this
 ·intro l1 te2 l2 e hw
  subst e
  have h1:ed te2 r.length=true:=by
   refine Apart.pair (l:=l1) (te:=te2) (l2:=l2) (te':=te) (r:=r) (by simpa using ha) ⟨k,?_⟩
   rcases hk with hk | hk
   ·exact .inr ⟨hk,hw⟩
   ·exact .inl ⟨hk,.inl hw⟩
  cases hs:S (l2++te::r).length with
  | false=>rfl
  | true =>
   have:=hc l1 te2 (l2++te::r) (by simp) hs r.length (by simp; omega) h1
   rw[hn] at this; cases this
omit [Gl] in
theorem yN {uses:TE→K→Prop}{ed:TE→Nat→Bool}{S:Nat→Bool}{l:List TE}{te:TE}{r:List TE}(ha:Apart wr uses ed (l++te::r)) (hc:xQ S ed (l++te::r)) (hn:S r.length=false) (k:K) :
  look wr base (fun j=>S j||j==r.length) (l++te::r) k=(wr te k).getD (look wr base S (l++te::r) k):=by
 have hsame:∀(q:List TE),q.length≤r.length→look wr base (fun j=>S j||j==r.length) q k=look wr base S q k:=by
  intro q
  induction q with
  | nil=>intro _; rfl
  | cons t q ih =>
   intro hq
   simp only[List.length_cons] at hq
   have hne:(q.length==r.length)=false:=by simp; omega
   simp only[look,hne,Bool.or_false,ih (by omega)]
 have key:∀(l:List TE),(∀(l1:List TE) (te2:TE) (l2:List TE),l=l1++te2::l2→(wr te2 k).isSome→(wr te k).isSome→S (l2++te::r).length=false) →
   look wr base (fun j=>S j||j==r.length) (l++te::r) k=(wr te k).getD (look wr base S (l++te::r) k):=by
  intro l
  induction l with
  | nil =>
   intro _
   simp only[List.nil_append,look,beq_self_eq_true,Bool.or_true,if_true,hn,Bool.false_eq_true,if_false]
   rw[hsame r (Nat.le_refl _)]
  | cons t l ih =>
   intro h
   have ih':=ih fun l1 te2 l2 e=>h (t::l1) te2 l2 (by rw[e]; rfl)
   have hne:((l++te::r).length==r.length)=false:=by simp; omega
   simp only[List.cons_append,look,hne,Bool.or_false,ih']
   by_cases hs:S (l++te::r).length=true
   ·rw[if_pos hs,if_pos hs]
    cases hw:wr t k with
    | none=>simp
    | some x =>
     cases hv:wr te k with
     | none=>simp
     | some y =>
      have:=h [] t l rfl (by rw[hw]; rfl) (by rw[hv]; rfl)
      rw[this] at hs; cases hs
   ·rw[if_neg hs,if_neg hs]
 refine key l fun l1 te2 l2 e hw hv=>?_
 subst e
 have h1:ed te2 r.length=true:=Apart.pair (l:=l1) (te:=te2) (l2:=l2) (te':=te) (r:=r) (by simpa using ha) ⟨k,.inl ⟨hv,.inl hw⟩⟩
 cases hs:S (l2++te::r).length with
 | false=>rfl
 | true =>
  have:=hc l1 te2 (l2++te::r) (by simp) hs r.length (by simp; omega) h1
  rw[hn] at this; cases this
end
def wrT (te:TE) (t:Nat):Option V:=if te.o.dst=some t then some te.e.v else none
def wrM (te:TE) (id:Nat):Option (Option Blk):=(xf te.e te.n id).map some
def YQ (ops:Array Oper) (te:TE) (t:Nat):Prop:=t∈te.o.looksAt ops
def YR (te:TE) (id:Nat):Prop:=id∈te.e.rd
omit [Gl] in
theorem R.fnop {C:Ctx}(f:FuncId):R C (@Bool.rec (fun _=>V) .unk (.fn f .nl) (Nat.blt f 1073741824)) (.val (.func (.func f) #[] #[])):=by
 cases h:Nat.blt f 1073741824 with
 | true =>
  rw[Nat.blt_eq] at h
  exact⟨FC.of h #[],by rw[FC.vw_lt (Nat.lt_trans h (by decide))]; exact (FC.of_v h _).symm,by rw[FC.of_l h]; rfl,.lt (Nat.lt_trans h (by decide))⟩
 | false=>trivial
noncomputable def opv (G:Nat→V) (tm:Nat→V):Operand→V
 | .tmp t=>tm t
 | .const v=>V.ofVal v
 | .global g=>G g
 | .func f=>@Bool.rec (fun _=>V) .unk (.fn f .nl) (Nat.blt f 1073741824)
def yq (ops:Array Oper) (tm:Nat→V) (o:Oper) (sk:Bool):Prop :=
 match o.guard with
 | none=>sk=false
 | some (j,want)=>∃ d,(ops[j]?).bind (·.dst)=some d∧((tm d=.bool want∧sk=false)∨((tm d=.bool (!want)∨tm d=.tup .nl)∧sk=true))
def jL (n0:Nat):List TE→Nat
 | []=>n0
 | te::_=>te.n + te.e.nw.length
def Valid (P:Program) (B:Nat) (G:Nat→V) (ops:Array Oper) (N:Nat) (tm0:Nat→V) (m0:Mem) (n0:Nat):List TE→Prop
 | []=>True
 | te::r=>Valid P B G ops N tm0 m0 n0 r∧ops[r.length]?=some te.o∧te.n=jL n0 r∧(∀ d,te.o.dst=some d→d < N)∧yq ops (look wrT tm0 (fun _=>true) r) te.o te.sk ∧
   (if te.sk then te.e=zk (.tup .nl) else OpSem P B te.o (opv G (look wrT tm0 (fun _=>true) r)) (look wrM m0 (fun _=>true) r) te.n te.e)
theorem Valid.app {P:Program}{B:Nat}{G:Nat→V}{ops:Array Oper}{N:Nat}{tm0:Nat→V}{m0:Mem}{n0:Nat}:∀ {l r:List TE},Valid P B G ops N tm0 m0 n0 (l++r)→Valid P B G ops N tm0 m0 n0 r
 | [],_,h=>h
 | _::l,_,h=>Valid.app (l:=l) h.1
theorem vo {P:Program}{B:Nat}{G:Nat→V}{ops:Array Oper}{N:Nat}{tm0:Nat→V}{m0:Mem}{n0:Nat}:∀ {r:List TE},Valid P B G ops N tm0 m0 n0 r→n0≤jL n0 r∧∀ te∈r,n0≤te.n∧te.n + te.e.nw.length≤jL n0 r
 | [],_=>⟨Nat.le_refl _,by simp⟩
 | te::r,h=>by
  obtain⟨h1,h2⟩:=vo h.1
  have hn:=h.2.2.1
  refine⟨by simp only[jL]; omega,fun x hx=>?_⟩
  rcases List.mem_cons.1 hx with rfl | hx
  ·simp only[jL]; omega
  ·have:=h2 x hx
   simp only[jL]; omega
def named (C0:Ctx) (S:Nat→Bool) (tr:List TE) (id:Nat):Prop:=C0.al id∨∃ l te r,tr=l++te::r∧S r.length=true∧te.n≤id∧id < te.n + te.e.nw.length
structure PS (B:Nat) (C0:Ctx) (N:Nat) (tm0:Nat→V) (m0:Mem) (tr:List TE) (S:Nat→Bool) (a:Act) (C:Ctx):Prop where
 kp:Kp B C0 C
 sr:SR B C (look wrM m0 S tr)
 tm:∀ t,R C (look wrT tm0 S tr t) (.val (a.tmps.getD t undef))
 al:∀ id,C.al id→named C0 S tr id
 size:a.tmps.size=N
omit [Gl] in
theorem YU {a:Act}{d t N:Nat}{v:Value}(hz:a.tmps.size=N) (hd:d < N):(a.put (some d) v).tmps.getD t undef=if d=t then v else a.tmps.getD t undef:=by
 simp only[Act.put,Array.getD_eq_getD_getElem?,Array.getElem?_setIfInBounds]
 by_cases h:d=t
 ·subst h; simp [hz,hd]
 ·simp [h]
omit [Gl] in
theorem Zn (m0:Mem) {te:TE}(x:Option Blk) (id:Nat):(wrM te id).getD x=(match xf te.e te.n id with | some b=>some b | none=>x):=by
 unfold wrM; cases xf te.e te.n id<;>rfl
omit [Gl] in
theorem zgo {e:Eff}{n:Nat}{x:Nat×Blk}(h:x∈e.up):(xf e n x.1).isSome=true:=by
 unfold xf
 split
 ·rename_i h1
  have:x.1 - n < e.nw.length:=by omega
  simp [this]
 ·have:∀(l:List (Nat×Blk)),x∈l→(l.lookup x.1).isSome=true:=by
   intro l
   induction l with
   | nil=>intro h; cases h
   | cons y l ih =>
    intro h
    simp only[List.lookup]
    cases hy:x.1==y.1 with
    | true=>rfl
    | false =>
     rcases List.mem_cons.1 h with rfl | h
     ·simp at hy
     ·exact ih h
  exact this _ h
theorem PS.step {ro:Option Nat}{P:Program}{B:Nat}{C0:Ctx}{G:Nat→V}{ops:Array Oper}{N:Nat}{tm0:Nat→V}{m0:Mem}{n0:Nat}{ed:TE→Nat→Bool}{tr l r:List TE}{te:TE}{S:Nat→Bool}{a:Act}{C:Ctx}{K:Act→World→Prop}{Q:Exit→Act→World→Prop}
  (htr:tr=l++te::r) (hv:Valid P B G ops N tm0 m0 n0 tr) (hT:Apart wrT (YQ ops) ed tr) (hM:Apart wrM YR ed tr) (hal0:∀ id,n0≤id→id < jL n0 tr→¬ C0.al id)
  (hG:∀ g C,Keep C0 C→R C (G g) (.val (.pointer (some ⟨g,0,none⟩))))
  (hc:xQ S ed tr) (hn:S r.length=false) (hd:∀ k,k < r.length→ed te k=true→S k=true) (h:PS B C0 N tm0 m0 tr S a C)
  (hK:∀ v C',a.defers=(a.put te.o.dst v).defers→PS B C0 N tm0 m0 tr (fun j=>S j||j==r.length) (a.put te.o.dst v) C'→K (a.put te.o.dst v) C'.w) :
  wpOpIn (FR ro) 0 P ops Q r.length K a C.w:=by
 subst htr
 obtain⟨hv1,hop,hnn,hdst,hw,hsem⟩:=Valid.app (l:=l) hv
 have htm:∀ t,t∈te.o.looksAt ops→R C (look wrT tm0 (fun _=>true) r t) (.val (a.tmps.getD t undef)):=fun t ht=>by
  rw[←yM (base:=tm0) hT hc hn hd (k:=t) (.inl ht)]; exact h.tm t
 have hput:∀ v C' (hk:Keep C C'),R C' te.e.v (.val v)→∀ t,R C' (look wrT tm0 (fun j=>S j||j==r.length) (l++te::r) t) (.val ((a.put te.o.dst v).tmps.getD t undef)):=by
  intro v C' hk hr t
  rw[yN hT hc hn]
  cases hdd:te.o.dst with
  | none=>simp only[wrT,hdd,Act.put]; exact R.keep hk _ _ (h.tm t)
  | some d =>
   rw[YU h.size (hdst d hdd)]
   simp only[wrT,hdd,Option.some.injEq]
   by_cases hdt:d=t
   ·rw[if_pos hdt,if_pos hdt]; exact hr
   ·rw[if_neg hdt,if_neg hdt]; exact R.keep hk _ _ (h.tm t)
 have hsize:∀ v,(a.put te.o.dst v).tmps.size=N:=by
  intro v; rw[←h.size]; cases te.o.dst<;>simp [Act.put]
 have hdef:∀ v,a.defers=(a.put te.o.dst v).defers:=by intro v; cases te.o.dst<;>rfl
 have hnamed:∀ id,named C0 S (l++te::r) id→named C0 (fun j=>S j||j==r.length) (l++te::r) id:=by
  rintro id (h1 | ⟨l',te',r',e,h1,h2⟩)
  ·exact .inl h1
  ·exact .inr ⟨l',te',r',e,by simp [h1],h2⟩
 have run:OpSem P B te.o (opv G (look wrT tm0 (fun _=>true) r)) (look wrM m0 (fun _=>true) r) te.n te.e→te.o.wpIn (FR ro) 0 P a C.w K Q:=by
  intro hs
  have hx:∀ x∈te.o.op.operands.toList,R C (opv G (look wrT tm0 (fun _=>true) r) x) (.val (a.eval x)):=by
   intro x hx
   cases x with
   | tmp t=>exact htm t (List.mem_append_left _ (List.mem_filterMap.2 ⟨.tmp t,hx,rfl⟩))
   | const v=>exact R.ofVal C v
   | global g=>exact hG g C h.kp.toKeep
   | func f=>exact R.fnop f
  have hrd:∀ id∈te.e.rd,look wrM m0 S (l++te::r) id=look wrM m0 (fun _=>true) r id:=fun id hid=>yM hM hc hn hd (.inl hid)
  have hup:∀ x∈te.e.up,look wrM m0 S (l++te::r) x.1=look wrM m0 (fun _=>true) r x.1:=fun x hx=>yM hM hc hn hd (.inr (by
   have:=zgo (n:=te.n) hx
   unfold wrM
   cases ht:xf te.e te.n x.1 with
   | none=>rw[ht] at this; cases this
   | some b=>rfl))
  have hfr:∀ i,i < te.e.nw.length→¬ C.al (te.n + i):=by
   intro i hi hal
   rcases h.al _ hal with h1 | ⟨l',te',r',e,hs',h1,h2⟩
   ·have h2:=(vo hv1).1
    have h3:=(vo hv).2 te (by simp)
    exact hal0 _ (by omega) (by omega) h1
   ·rcases List.append_eq_append_iff.1 e with ⟨q,rfl,e2⟩ | ⟨q,rfl,e2⟩
    ·cases q with
     | nil =>
      simp only[List.nil_append,List.cons.injEq] at e2
      obtain⟨rfl,rfl⟩:=e2
      rw[hn] at hs'; cases hs'
     | cons y q =>
      simp only[List.cons_append,List.cons.injEq] at e2
      obtain⟨rfl,rfl⟩:=e2
      have:=(vo hv1).2 te' (by simp)
      omega
    ·cases q with
     | nil =>
      simp only[List.nil_append,List.cons.injEq] at e2
      obtain⟨rfl,rfl⟩:=e2
      rw[hn] at hs'; cases hs'
     | cons y q =>
      simp only[List.cons_append,List.cons.injEq] at e2
      obtain⟨rfl,rfl⟩:=e2
      have hv':=Valid.app (l:=l') (r:=te'::(q++te::r)) (by simpa using hv)
      have h3:=hv'.2.2.1
      have:=(vo hv'.1).2 te (by simp)
      omega
  refine Does.wpR (hs C (look wrM m0 S (l++te::r)) a.eval h.sr hrd hup hfr hx) ?_
  rintro v w' ⟨C',rfl,hr,hk,hsr,hal⟩
  refine hK v C' (hdef v) ⟨h.kp.trans hk,?_,hput v C' hk.toKeep hr,?_,hsize v⟩
  ·have:look wrM m0 (fun j=>S j||j==r.length) (l++te::r)=put (look wrM m0 S (l++te::r)) te.n te.e:=by
    funext id
    rw[yN hM hc hn,Zn m0]; rfl
   rw[this]; exact hsr
  ·intro id hid
   rcases hal id hid with h1 | h1
   ·exact hnamed id (h.al id h1)
   ·exact .inr ⟨l,te,r,rfl,by simp,h1.1,h1.2⟩
 unfold wpOpIn
 simp only[hop]
 cases hg:te.o.guard with
 | none =>
  have hsk:te.sk=false:=by unfold yq at hw; rw[hg] at hw; exact hw
  rw[hsk] at hsem
  simp only[Bool.false_eq_true,if_false] at hsem
  have hwant:Region.wanted te.o (yielded ops a.tmps)=true:=by simp [Region.wanted,hg]
  rw[if_pos hwant]
  exact run hsem
 | some jw =>
  obtain⟨j,want⟩:=jw
  unfold yq at hw; rw[hg] at hw
  obtain⟨d,hdj,hw⟩:=hw
  have hlook:d∈te.o.looksAt ops:=by simp [Oper.looksAt,hg,hdj]
  have hrd:=htm d hlook
  rcases hw with ⟨h1,hsk⟩ | ⟨h1,hsk⟩
  ·rw[hsk] at hsem
   simp only[Bool.false_eq_true,if_false] at hsem
   rw[h1] at hrd
   have hval:a.tmps.getD d undef=.bool want:=hrd
   have hget:a.tmps[d]?=some (.bool want):=by
    rw[Array.getD_eq_getD_getElem?] at hval
    cases hx:a.tmps[d]? with
    | none=>rw[hx] at hval; simp [undef] at hval
    | some y=>rw[hx] at hval; simpa using hval
   have hwant:Region.wanted te.o (yielded ops a.tmps)=true:=by simp [Region.wanted,hg,yielded,hdj,hget]
   rw[if_pos hwant]
   exact run hsem
  ·rw[hsk] at hsem
   simp only[if_true] at hsem
   have hwant:Region.wanted te.o (yielded ops a.tmps)=false:=by
    rcases h1 with h1 | h1
    ·rw[h1] at hrd
     have hval:a.tmps.getD d undef=.bool (!want):=hrd
     have hget:a.tmps[d]?=some (.bool (!want)):=by
      rw[Array.getD_eq_getD_getElem?] at hval
      cases hx:a.tmps[d]? with
      | none=>rw[hx] at hval; simp [undef] at hval
      | some y=>rw[hx] at hval; simpa using hval
     cases want<;>simp [Region.wanted,hg,yielded,hdj,hget]
    ·rw[h1] at hrd
     obtain⟨cs,h2,h3⟩:=hrd
     have h3':cs.toList=[]:=h3
     have hval:a.tmps.getD d undef=.tuple #[]:=by rw[h2]; congr; simpa using h3'
     rw[Array.getD_eq_getD_getElem?] at hval
     cases hx:a.tmps[d]? with
     | none=>simp [Region.wanted,hg,yielded,hdj,hx]
     | some y=>rw[hx] at hval; simp only[Option.getD_some] at hval; subst hval; simp [Region.wanted,hg,yielded,hdj,hx]
   rw[if_neg (by rw[hwant]; simp)]
   have hmem:look wrM m0 (fun j=>S j||j==r.length) (l++te::r)=look wrM m0 S (l++te::r):=by
    funext id
    rw[yN hM hc hn,Zn m0,hsem]
    have h1:¬ (te.n≤id∧id < te.n + 0):=by omega
    simp only[xf,List.length_nil,h1,if_false,List.lookup_nil]
   exact⟨fun _ _=>trivial,hK undef C (hdef _) ⟨h.kp,by rw[hmem]; exact h.sr,hput undef C (Keep.refl C) (by rw[hsem]; exact⟨#[],rfl,rfl⟩),fun id hid=>hnamed id (h.al id hid),hsize _⟩⟩
omit [Gl] in
theorem qA:∀(tr:List TE) (i:Nat),i < tr.length→∃ l te r,tr=l++te::r∧r.length=i
 | te::r,i,h=>by
  by_cases hi:i=r.length
  ·exact⟨[],te,r,rfl,hi.symm⟩
  ·obtain⟨l,te',r',e,h'⟩:=qA r i (by simp at h; omega)
   exact⟨te::l,te',r',by rw[e]; rfl,h'⟩
omit [Gl] in
theorem wU {K X:Type}{wr:TE→K→Option X}{base:K→X}{S:Nat→Bool}(k:K):∀(tr:List TE),(∀ i,i < tr.length→S i=false)→look wr base S tr k=base k
 | [],_=>rfl
 | te::r,h=>by simp only[look,h r.length (by simp),Bool.false_eq_true,if_false]; exact wU k r fun i hi=>h i (by simp; omega)
omit [Gl] in
theorem vh {K X:Type}{wr:TE→K→Option X}{base:K→X}{S:Nat→Bool}(k:K):∀(tr:List TE),(∀ i,i < tr.length→S i=true)→look wr base S tr k=look wr base (fun _=>true) tr k
 | [],_=>rfl
 | te::r,h=>by simp only[look,h r.length (by simp),if_true]; rw[vh k r fun i hi=>h i (by simp; omega)]
omit [Gl] in
theorem qm {p q:Nat→Bool}:∀(l:List Nat) {x:Nat},(∀ y∈l,q y=true→p y=true)→x∈l→p x=true→q x=false→l.countP q < l.countP p
 | y::l,x,h,hx,hp,hq=>by
  have hle:l.countP q≤l.countP p:=List.countP_mono_left fun z hz hqz=>h z (by simp [hz]) hqz
  rcases List.mem_cons.1 hx with rfl | hx
  ·rw[List.countP_cons,List.countP_cons,hp,hq]; simp; omega
  ·have ih:=qm l (fun z hz=>h z (by simp [hz])) hx hp hq
   rw[List.countP_cons,List.countP_cons]
   have:(if q y=true then 1 else 0)≤(if p y=true then 1 else 0):=by
    by_cases hqy:q y=true
    ·simp [hqy,h y (by simp) hqy]
    ·simp [hqy]
   omega
end Go.Ab
