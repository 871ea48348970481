/- A region in whatever order: chains of edges. No condition. What is shown of code, whatever carries it out: states as functions; less is known. No condition. Single operations: memory, operands, what comes out. No condition. -/
import Derived.Test.YtfpmealbbibhpaaGreatDoorK1
set_option linter.unusedVariables false
set_option linter.unusedSimpArgs false
namespace Go.Ab
open Go.RowKit Go.Y
variable [Gl]
def reach (ops:Array Oper):Nat→Oper→Nat→Bool
  | 0,o,k=>edgeO o k
  | f + 1,o,k=>edgeO o k||o.after.any fun e=>Region.binds .any e&&(match ops[e.on]? with | some o'=>reach ops f o' k | none=>false)
def edT (ops:Array Oper) (te:TE) (k:Nat):Bool:=reach ops 6 te.o k
omit [Gl] in
theorem edge_edT {ops:Array Oper}{te:TE}{k:Nat}(h:edge te k=true):edT ops te k=true:=by
  unfold edT reach
  rw[show edgeO te.o k=true from h]; rfl
omit [Gl] in
theorem apart_mono {K X:Type}{wr:TE→K→Option X}{uses:TE→K→Prop}{ed ed':TE→Nat→Bool}(h:∀ te k,ed te k=true→ed' te k=true):∀ {tr:List TE},Apart wr uses ed tr→Apart wr uses ed' tr
  | [],_=>trivial
  | te::r,ha=>⟨apart_mono h ha.1,fun l te' r' e hk=>h _ _ (ha.2 l te' r' e hk)⟩
omit [Gl] in
theorem reach_inv {ops:Array Oper}{f:Nat}{o:Oper}{k:Nat}(h:reach ops f o k=true):edgeO o k=true∨∃(j f':Nat) (o':Oper),edgeO o j=true∧ops[j]?=some o'∧reach ops f' o' k=true∧f' < f:=by
  cases f with
  | zero=>exact .inl h
  | succ f =>
    unfold reach at h
    rw[Bool.or_eq_true] at h
    rcases h with h | h
    · exact .inl h
    · right
      obtain⟨e,he,hb⟩:=Array.any_eq_true'.1 h
      rw[Bool.and_eq_true] at hb
      obtain⟨h1,h2⟩:=hb
      split at h2
      · rename_i o' ho
        refine⟨e.on,f,o',?_,ho,h2,by omega⟩
        unfold edgeO
        exact Array.any_eq_true'.2 ⟨e,he,by simp [h1]⟩
      · cases h2
theorem reach_closed {P:Program}{B:Nat}{G:Nat→V}{ops:Array Oper}{N:Nat}{tm0:Nat→V}{m0:Mem}{n0:Nat}{tr:List TE}{S:Nat→Bool}(hv:Valid P B G ops N tm0 m0 n0 tr) (hlen:tr.length=ops.size)
    (hback:∀ l te r,tr=l++te::r→∀ k,edge te k=true→k < r.length) (hc:Closed S edge tr):∀(f j k:Nat) (o:Oper),ops[j]?=some o→S j=true→reach ops f o k=true→S k=true:=by
  intro f
  induction f using Nat.strongRecOn with
  | _ f ih =>
  intro j k o ho hj hk
  have hlt:j < ops.size:=(Array.getElem?_eq_some_iff.1 ho).1
  obtain⟨l,te,r,e,hr⟩:=cut_at tr j (by omega)
  have hop:=(Valid.app (l:=l) (r:=te::r) (by rw[←e]; exact hv)).2.1
  rw[hr,ho] at hop
  have hte:o=te.o:=Option.some.inj hop
  have dir:∀ k,edgeO o k=true→S k=true:=fun k hk=>by
    have hk':edge te k=true:=by rw[hte] at hk; exact hk
    exact hc l te r e (by rw[hr]; exact hj) k (hback l te r e k hk') hk'
  rcases reach_inv hk with h1 | ⟨j',f',o',h1,h2,h3,h4⟩
  · exact dir k h1
  · exact ih f' h4 j' k o' h2 (dir j' h1) h3
omit [Gl] in
theorem reach_deps {ops:Array Oper}{te:TE}{S:Nat→Bool}(hcl:∀(f j k:Nat) (o:Oper),ops[j]?=some o→S j=true→reach ops f o k=true→S k=true) (hd:∀ k,edge te k=true→S k=true) {k:Nat}(hk:edT ops te k=true):S k=true:=by
  rcases reach_inv hk with h1 | ⟨j',f',o',h1,h2,h3,h4⟩
  · exact hd k h1
  · exact hcl f' j' k o' h2 (hd j' h1) h3
theorem any_regionT {ro:Option Nat}{P:Program}{B:Nat}{C0:Ctx}{G:Nat→V}{ops:Array Oper}{N:Nat}{tm0:Nat→V}{m0:Mem}{n0:Nat}{tr:List TE}{Q:Exit→Act→World→Prop}
    (hv:Valid P B G ops N tm0 m0 n0 tr) (hlen:tr.length=ops.size) (hT:Apart wrT (useT ops) edge tr) (hM:Apart wrM useM (edT ops) tr) (hback:∀ l te r,tr=l++te::r→∀ k,edge te k=true→k < r.length)
    (hal0:∀ id,n0≤id→id < nextId n0 tr→¬ C0.al id) (hG:∀ g C,Keep C0 C→R C (G g) (.val (.pointer (some ⟨g,0,none⟩)))) (D:List Deferred)
    (hQ:∀ a C,a.defers=D→PS B C0 N tm0 m0 tr (fun _=>true) a C→Q .normal a C.w) :
    ∀(f:Nat) (listed:Array Bool) (a:Act) (C:Ctx),listed.size=ops.size→(List.range ops.size).countP (fun i=>!listed.getD i false)≤f→Closed (fun i=>listed.getD i false) edge tr→a.defers=D →
      PS B C0 N tm0 m0 tr (fun i=>listed.getD i false) a C→wpAnyIn (FR ro) 0 P .any ops Q f listed a C.w:=by
  have edge_of:∀ {l r:List TE}{te:TE},tr=l++te::r→∀ {o:Oper},ops[r.length]?=some o→o=te.o:=by
    intro l r te e o ho
    have:=(Valid.app (l:=l) (r:=te::r) (by rw[←e]; exact hv)).2.1
    rw[this] at ho; exact (Option.some.inj ho).symm
  have first:∀(listed:Array Bool),listed.size=ops.size→∀ i,i < ops.size→listed.getD i false=false→Region.ready .any ops listed≠[]:=by
    intro listed hz i
    induction i using Nat.strongRecOn with
    | _ i ih =>
      intro hi hun
      by_cases hall:∀ k,k < i→listed.getD k false=true
      · obtain⟨l,te,r,e,hr⟩:=cut_at tr i (by omega)
        have hop:=(Valid.app (l:=l) (r:=te::r) (by rw[←e]; exact hv)).2.1
        rw[hr] at hop
        have:i∈Region.ready .any ops listed:=by
          refine mem_ready.2 ⟨?_,te.o,hop,fun x hx hb=>?_⟩
          · simp [hz,hi] at hun ⊢; exact hun
          · have h1:edge te x.on=true:=by
              unfold edge
              exact Array.any_eq_true'.2 ⟨x,hx,by simp [hb]⟩
            exact hall _ (by have:=hback l te r e _ h1; omega)
        intro h0; rw[h0] at this; cases this
      · have⟨k,hk⟩:∃ k,k < i∧listed.getD k false=false:=by
          apply Classical.byContradiction
          intro hno
          refine hall fun k hk=>?_
          cases hkl:listed.getD k false with
          | true=>rfl
          | false=>exact absurd ⟨k,hk,hkl⟩ hno
        exact ih k hk.1 (by omega) hk.2
  have fin:∀(listed:Array Bool) (a:Act) (C:Ctx),listed.size=ops.size→a.defers=D→PS B C0 N tm0 m0 tr (fun i=>listed.getD i false) a C→Region.ready .any ops listed=[]→Q .normal a C.w:=by
    intro listed a C hz hD h h0
    have hS:∀ i,i < tr.length→listed.getD i false=true:=by
      intro i hi
      cases hl:listed.getD i false with
      | true=>rfl
      | false=>exact absurd h0 (first listed hz i (by omega) hl)
    refine hQ a C hD ?_
    have e1:look wrM m0 (fun i=>listed.getD i false) tr=look wrM m0 (fun _=>true) tr:=by funext k; exact look_every k tr hS
    have e2:∀ t,look wrT tm0 (fun i=>listed.getD i false) tr t=look wrT tm0 (fun _=>true) tr t:=fun t=>look_every t tr hS
    refine⟨h.kp,by rw[←e1]; exact h.sr,fun t=>by rw[←e2]; exact h.tm t,fun id hid=>?_,h.size⟩
    rcases h.al id hid with h1 | ⟨l,te,r,e,_,h2⟩
    · exact .inl h1
    · exact .inr ⟨l,te,r,e,rfl,h2⟩
  intro f
  induction f with
  | zero =>
    intro listed a C hz hcnt hc hD h
    have h0:Region.ready .any ops listed=[]:=by
      apply Classical.byContradiction
      intro hne
      obtain⟨i,hi⟩:=List.exists_mem_of_ne_nil _ hne
      obtain⟨hun,o,ho,_⟩:=mem_ready.1 hi
      have hlt:i < ops.size:=(Array.getElem?_eq_some_iff.1 ho).1
      have hun':listed.getD i false=false:=by simp [hz,hlt] at hun ⊢; exact hun
      have:0 < (List.range ops.size).countP (fun i=>!listed.getD i false):=List.countP_pos_iff.2 ⟨i,List.mem_range.2 hlt,by rw[hun']; rfl⟩
      omega
    exact⟨h0,fin listed a C hz hD h h0⟩
  | succ f ih =>
    intro listed a C hz hcnt hc hD h
    refine⟨fin listed a C hz hD h,fun i hi=>?_⟩
    obtain⟨hun,o,ho,hall⟩:=mem_ready.1 hi
    have hlt:i < ops.size:=(Array.getElem?_eq_some_iff.1 ho).1
    have hun':listed.getD i false=false:=by simp [hz,hlt] at hun ⊢; exact hun
    obtain⟨l,te,r,e,hr⟩:=cut_at tr i (by omega)
    subst hr
    have hte:=edge_of e ho
    subst hte
    have hS:∀ j,(listed.setIfInBounds r.length true).getD j false=(listed.getD j false||j==r.length):=by
      intro j
      by_cases hj:r.length=j
      · subst hj; simp [hz,hlt]
      · rw[getD_set_ne false hj]
        have:(j==r.length)=false:=by simp; omega
        rw[this,Bool.or_false]
    have hdeps:∀ k,k < r.length→edge te k=true→listed.getD k false=true:=by
      intro k _ hk
      unfold edge at hk
      obtain⟨x,hx,hb⟩:=Array.any_eq_true'.1 hk
      simp only[Bool.and_eq_true,beq_iff_eq] at hb
      rw[←hb.2]; exact hall x hx hb.1
    have hclT:∀(f j k:Nat) (o:Oper),ops[j]?=some o→listed.getD j false=true→reach ops f o k=true→listed.getD k false=true:=fun f j k o ho hj hk=>reach_closed (S:=fun i=>listed.getD i false) hv hlen hback hc f j k o ho hj hk
    have hdT:∀ k,k < r.length→edT ops te k=true→listed.getD k false=true:=fun k _ hk=>reach_deps (S:=fun i=>listed.getD i false) hclT (fun k hk=>hdeps k (hback l te r e k hk) hk) hk
    have hcT:Closed (fun i=>listed.getD i false) (edT ops) tr:=fun l' te' r' e' hs k _ hk=>hclT 6 r'.length k te'.o (Valid.app (l:=l') (r:=te'::r') (by rw[←e']; exact hv)).2.1 hs hk
    refine PS.step (S:=fun i=>listed.getD i false) e hv (apart_mono (fun te k h=>edge_edT h) hT) hM hal0 hG hcT hun' hdT h ?_
    intro v C' hd' h'
    have hS':(fun j=>(listed.setIfInBounds r.length true).getD j false)=fun j=>listed.getD j false||j==r.length:=funext hS
    refine ih _ _ C' (by simp [hz]) ?_ ?_ (by rw[←hd']; exact hD) (by rw[hS']; exact h')
    · have:=countP_lt (p:=fun i=>!listed.getD i false) (q:=fun i=>!(listed.setIfInBounds r.length true).getD i false) (List.range ops.size) (x:=r.length) (fun y _ hy=>by
        simp only[hS,Bool.not_or,Bool.and_eq_true] at hy; exact hy.1) (List.mem_range.2 hlt) (by rw[hun']; rfl) (by simp only[hS]; simp)
      omega
    · intro l' te' r' e' hs k hk hek
      simp only[hS,Bool.or_eq_true,beq_iff_eq] at hs ⊢
      rcases hs with hs | hs
      · exact .inl (hc l' te' r' e' hs k hk hek)
      · left
        have:te'=te:=by
          have h1:=(Valid.app (l:=l') (r:=te'::r') (by rw[←e']; exact hv)).2.1
          have h2:l++te::r=l'++te'::r':=by rw[←e,←e']
          have h3:=List.append_inj' h2 (by simp [hs])
          simp only[List.cons.injEq] at h3
          exact h3.2.1.symm
        subst this
        exact hdeps k (by omega) hek
theorem reach_closedL {P:Program}{B:Nat}{G:Nat→V}{ops:Array Oper}{N:Nat}{tm0:Nat→V}{m0:Mem}{n0:Nat}{tr:List TE}{S:Nat→Bool}(hv:Valid P B G ops N tm0 m0 n0 tr)
    (hback:∀ l te r,tr=l++te::r→∀ k,edge te k=true→k < r.length) (hc:Closed S edge tr):∀(f j k:Nat) (o:Oper),j < tr.length→ops[j]?=some o→S j=true→reach ops f o k=true→S k=true:=by
  intro f
  induction f using Nat.strongRecOn with
  | _ f ih =>
  intro j k o hlt ho hj hk
  obtain⟨l,te,r,e,hr⟩:=cut_at tr j hlt
  have hop:=(Valid.app (l:=l) (r:=te::r) (by rw[←e]; exact hv)).2.1
  rw[hr,ho] at hop
  have hte:o=te.o:=Option.some.inj hop
  have dir:∀ k,edgeO o k=true→k < r.length∧S k=true:=fun k hk=>by
    have hk':edge te k=true:=by rw[hte] at hk; exact hk
    exact⟨hback l te r e k hk',hc l te r e (by rw[hr]; exact hj) k (hback l te r e k hk') hk'⟩
  rcases reach_inv hk with h1 | ⟨j',f',o',h1,h2,h3,h4⟩
  · exact (dir k h1).2
  · exact ih f' h4 j' k o' (by have:=(dir j' h1).1; omega) h2 (dir j' h1).2 h3
theorem any_regionL {ro:Option Nat}{P:Program}{B:Nat}{C0:Ctx}{G:Nat→V}{ops:Array Oper}{N:Nat}{tm0:Nat→V}{m0:Mem}{n0:Nat}{tr:List TE}{Q:Exit→Act→World→Prop}{ol:Oper}
    (hv:Valid P B G ops N tm0 m0 n0 tr) (hlen:tr.length + 1=ops.size) (hol:ops[tr.length]?=some ol) (hlast:∀ k,k < tr.length→reach ops 6 ol k=true) (hbl:∀ k,edgeO ol k=true→k < tr.length)
    (hT:Apart wrT (useT ops) edge tr) (hM:Apart wrM useM (edT ops) tr) (hback:∀ l te r,tr=l++te::r→∀ k,edge te k=true→k < r.length)
    (hal0:∀ id,n0≤id→id < nextId n0 tr→¬ C0.al id) (hG:∀ g C,Keep C0 C→R C (G g) (.val (.pointer (some ⟨g,0,none⟩)))) (D:List Deferred)
    (hQ:∀ a C,a.defers=D→PS B C0 N tm0 m0 tr (fun _=>true) a C→∀ R:Act→World→Prop,(∀ a w,Q .normal a w→R a w)→wpOpIn (FR ro) 0 P ops Q tr.length R a C.w) :
    ∀(f:Nat) (listed:Array Bool) (a:Act) (C:Ctx),listed.size=ops.size→listed.getD tr.length false=false→(List.range ops.size).countP (fun i=>!listed.getD i false)≤f→Closed (fun i=>listed.getD i false) edge tr→a.defers=D →
      PS B C0 N tm0 m0 tr (fun i=>listed.getD i false) a C→wpAnyIn (FR ro) 0 P .any ops Q f listed a C.w:=by
  have edge_of:∀ {l r:List TE}{te:TE},tr=l++te::r→∀ {o:Oper},ops[r.length]?=some o→o=te.o:=by
    intro l r te e o ho
    have:=(Valid.app (l:=l) (r:=te::r) (by rw[←e]; exact hv)).2.1
    rw[this] at ho; exact (Option.some.inj ho).symm
  have first:∀(listed:Array Bool),listed.size=ops.size→∀ i,i≤tr.length→listed.getD i false=false→Region.ready .any ops listed≠[]:=by
    intro listed hz i
    induction i using Nat.strongRecOn with
    | _ i ih =>
      intro hi hun
      by_cases hall:∀ k,k < i→listed.getD k false=true
      · have hun':∀(h:i < ops.size),i∈Region.ready .any ops listed↔(∃ o,ops[i]?=some o∧∀ x∈o.after,Region.binds .any x=true→listed.getD x.on false=true):=fun h=>by
          constructor
          · intro h1
            obtain⟨_,o,ho,h2⟩:=mem_ready.1 h1
            exact⟨o,ho,h2⟩
          · rintro⟨o,ho,h2⟩
            refine mem_ready.2 ⟨?_,o,ho,h2⟩
            simp [hz,h] at hun ⊢; exact hun
        have hm:i∈Region.ready .any ops listed:=by
          refine (hun' (by omega)).2 ?_
          rcases Nat.lt_or_ge i tr.length with hlt | hge
          · obtain⟨l,te,r,e,hr⟩:=cut_at tr i hlt
            have hop:=(Valid.app (l:=l) (r:=te::r) (by rw[←e]; exact hv)).2.1
            rw[hr] at hop
            refine⟨te.o,hop,fun x hx hb=>?_⟩
            have h1:edge te x.on=true:=by
              unfold edge
              exact Array.any_eq_true'.2 ⟨x,hx,by simp [hb]⟩
            exact hall _ (by have:=hback l te r e _ h1; omega)
          · obtain rfl:i=tr.length:=by omega
            refine⟨ol,hol,fun x hx hb=>?_⟩
            exact hall _ (hbl _ (by unfold edgeO; exact Array.any_eq_true'.2 ⟨x,hx,by simp [hb]⟩))
        intro h0; rw[h0] at hm; cases hm
      · have⟨k,hk⟩:∃ k,k < i∧listed.getD k false=false:=by
          apply Classical.byContradiction
          intro hno
          refine hall fun k hk=>?_
          cases hkl:listed.getD k false with
          | true=>rfl
          | false=>exact absurd ⟨k,hk,hkl⟩ hno
        exact ih k hk.1 (by omega) hk.2
  intro f
  induction f with
  | zero =>
    intro listed a C hz hunl hcnt hc hD h
    exfalso
    have:0 < (List.range ops.size).countP (fun i=>!listed.getD i false):=List.countP_pos_iff.2 ⟨tr.length,List.mem_range.2 (by omega),by rw[hunl]; rfl⟩
    omega
  | succ f ih =>
    intro listed a C hz hunl hcnt hc hD h
    refine⟨fun h0=>absurd h0 (first listed hz tr.length (Nat.le_refl _) hunl),fun i hi=>?_⟩
    obtain⟨hun,o,ho,hall⟩:=mem_ready.1 hi
    have hlt:i < ops.size:=(Array.getElem?_eq_some_iff.1 ho).1
    have hun':listed.getD i false=false:=by simp [hz,hlt] at hun ⊢; exact hun
    rcases Nat.lt_or_ge i tr.length with hilt | hige
    · obtain⟨l,te,r,e,hr⟩:=cut_at tr i hilt
      subst hr
      have hte:=edge_of e ho
      subst hte
      have hS:∀ j,(listed.setIfInBounds r.length true).getD j false=(listed.getD j false||j==r.length):=by
        intro j
        by_cases hj:r.length=j
        · subst hj; simp [hz,hlt]
        · rw[getD_set_ne false hj]
          have:(j==r.length)=false:=by simp; omega
          rw[this,Bool.or_false]
      have hdeps:∀ k,k < r.length→edge te k=true→listed.getD k false=true:=by
        intro k _ hk
        unfold edge at hk
        obtain⟨x,hx,hb⟩:=Array.any_eq_true'.1 hk
        simp only[Bool.and_eq_true,beq_iff_eq] at hb
        rw[←hb.2]; exact hall x hx hb.1
      have hclT:∀(f j k:Nat) (o:Oper),j < tr.length→ops[j]?=some o→listed.getD j false=true→reach ops f o k=true→listed.getD k false=true:=fun f j k o hj0 ho hj hk=>reach_closedL (S:=fun i=>listed.getD i false) hv hback hc f j k o hj0 ho hj hk
      have hdT:∀ k,k < r.length→edT ops te k=true→listed.getD k false=true:=fun k _ hk=>by
        rcases reach_inv hk with h1 | ⟨j',f',o',h1,h2,h3,h4⟩
        · exact hdeps k (hback l te r e k h1) h1
        · have hj':=hback l te r e j' h1
          exact hclT f' j' k o' (by omega) h2 (hdeps j' hj' h1) h3
      have hcT:Closed (fun i=>listed.getD i false) (edT ops) tr:=fun l' te' r' e' hs k _ hk=>hclT 6 r'.length k te'.o (by rw[e']; simp; omega) (Valid.app (l:=l') (r:=te'::r') (by rw[←e']; exact hv)).2.1 hs hk
      refine PS.step (S:=fun i=>listed.getD i false) e hv (apart_mono (fun te k h=>edge_edT h) hT) hM hal0 hG hcT hun' hdT h ?_
      intro v C' hd' h'
      have hS':(fun j=>(listed.setIfInBounds r.length true).getD j false)=fun j=>listed.getD j false||j==r.length:=funext hS
      refine ih _ _ C' (by simp [hz]) (by rw[hS,hunl]; simp; omega) ?_ ?_ (by rw[←hd']; exact hD) (by rw[hS']; exact h')
      · have:=countP_lt (p:=fun i=>!listed.getD i false) (q:=fun i=>!(listed.setIfInBounds r.length true).getD i false) (List.range ops.size) (x:=r.length) (fun y _ hy=>by
          simp only[hS,Bool.not_or,Bool.and_eq_true] at hy; exact hy.1) (List.mem_range.2 hlt) (by rw[hun']; rfl) (by simp only[hS]; simp)
        omega
      · intro l' te' r' e' hs k hk hek
        simp only[hS,Bool.or_eq_true,beq_iff_eq] at hs ⊢
        rcases hs with hs | hs
        · exact .inl (hc l' te' r' e' hs k hk hek)
        · left
          have:te'=te:=by
            have h2:l++te::r=l'++te'::r':=by rw[←e,←e']
            have h3:=List.append_inj' h2 (by simp [hs])
            simp only[List.cons.injEq] at h3
            exact h3.2.1.symm
          subst this
          exact hdeps k (by omega) hek
    · obtain rfl:i=tr.length:=by omega
      have hoe:o=ol:=by rw[hol] at ho; exact (Option.some.inj ho).symm
      subst hoe
      have hdir:∀ k,edgeO o k=true→listed.getD k false=true:=fun k hk=>by
        unfold edgeO at hk
        obtain⟨x,hx,hb⟩:=Array.any_eq_true'.1 hk
        simp only[Bool.and_eq_true,beq_iff_eq] at hb
        rw[←hb.2]; exact hall x hx hb.1
      have hS:∀ i,i < tr.length→listed.getD i false=true:=fun k hk=>by
        rcases reach_inv (hlast k hk) with h1 | ⟨j',f',o',h1,h2,h3,h4⟩
        · exact hdir k h1
        · exact reach_closedL (S:=fun i=>listed.getD i false) hv hback hc f' j' k o' (hbl j' h1) h2 (hdir j' h1) h3
      have hps:PS B C0 N tm0 m0 tr (fun _=>true) a C:=by
        have e1:look wrM m0 (fun i=>listed.getD i false) tr=look wrM m0 (fun _=>true) tr:=by funext k; exact look_every k tr hS
        have e2:∀ t,look wrT tm0 (fun i=>listed.getD i false) tr t=look wrT tm0 (fun _=>true) tr t:=fun t=>look_every t tr hS
        refine⟨h.kp,by rw[←e1]; exact h.sr,fun t=>by rw[←e2]; exact h.tm t,fun id hid=>?_,h.size⟩
        rcases h.al id hid with h1 | ⟨l,te,r,e,_,h2⟩
        · exact .inl h1
        · exact .inr ⟨l,te,r,e,rfl,h2⟩
      refine hQ a C hD hps _ fun a' w' hq=>?_
      have hnil:Region.ready .any ops (listed.setIfInBounds tr.length true)=[]:=by
        apply Classical.byContradiction
        intro hne
        obtain⟨j,hj⟩:=List.exists_mem_of_ne_nil _ hne
        obtain⟨hu,o',ho',_⟩:=mem_ready.1 hj
        have hjl:j < ops.size:=(Array.getElem?_eq_some_iff.1 ho').1
        by_cases hje:tr.length=j
        · subst hje; simp [hz,hjl] at hu
        · have h2:(listed.setIfInBounds tr.length true).getD j false=true:=by
            rw[getD_set_ne false hje]; exact hS j (by omega)
          simp [hz,hjl] at hu h2
          rw[h2] at hu; cases hu
      cases f with
      | zero=>exact⟨hnil,hq⟩
      | succ f=>exact⟨fun _=>hq,fun j hj=>by rw[hnil] at hj; cases hj⟩
theorem any_regionLL {ro:Option Nat}{P:Program}{B:Nat}{C0:Ctx}{G:Nat→V}{ops:Array Oper}{N:Nat}{tm0:Nat→V}{m0:Mem}{n0:Nat}{tr:List TE}{Q:Exit→Act→World→Prop}{ol o2:Oper}
    (hv:Valid P B G ops N tm0 m0 n0 tr) (hlen:tr.length + 2=ops.size) (ho2:ops[tr.length + 1]?=some o2) (h2e:edgeO o2 tr.length=true) (h2b:∀ k,edgeO o2 k=true→k < tr.length + 1) (hol:ops[tr.length]?=some ol) (hlast:∀ k,k < tr.length→reach ops 6 ol k=true) (hbl:∀ k,edgeO ol k=true→k < tr.length)
    (hT:Apart wrT (useT ops) edge tr) (hM:Apart wrM useM (edT ops) tr) (hback:∀ l te r,tr=l++te::r→∀ k,edge te k=true→k < r.length)
    (hal0:∀ id,n0≤id→id < nextId n0 tr→¬ C0.al id) (hG:∀ g C,Keep C0 C→R C (G g) (.val (.pointer (some ⟨g,0,none⟩)))) (D:List Deferred)
    (hQ:∀ a C,a.defers=D→PS B C0 N tm0 m0 tr (fun _=>true) a C→∀ R:Act→World→Prop,(∀ a w,(∀ R2:Act→World→Prop,(∀ a w,Q .normal a w→R2 a w)→wpOpIn (FR ro) 0 P ops Q (tr.length + 1) R2 a w)→R a w)→wpOpIn (FR ro) 0 P ops Q tr.length R a C.w) :
    ∀(f:Nat) (listed:Array Bool) (a:Act) (C:Ctx),listed.size=ops.size→listed.getD tr.length false=false→listed.getD (tr.length + 1) false=false→(List.range ops.size).countP (fun i=>!listed.getD i false)≤f→Closed (fun i=>listed.getD i false) edge tr→a.defers=D →
      PS B C0 N tm0 m0 tr (fun i=>listed.getD i false) a C→wpAnyIn (FR ro) 0 P .any ops Q f listed a C.w:=by
  have edge_of:∀ {l r:List TE}{te:TE},tr=l++te::r→∀ {o:Oper},ops[r.length]?=some o→o=te.o:=by
    intro l r te e o ho
    have:=(Valid.app (l:=l) (r:=te::r) (by rw[←e]; exact hv)).2.1
    rw[this] at ho; exact (Option.some.inj ho).symm
  have first:∀(listed:Array Bool),listed.size=ops.size→∀ i,i≤tr.length→listed.getD i false=false→Region.ready .any ops listed≠[]:=by
    intro listed hz i
    induction i using Nat.strongRecOn with
    | _ i ih =>
      intro hi hun
      by_cases hall:∀ k,k < i→listed.getD k false=true
      · have hun':∀(h:i < ops.size),i∈Region.ready .any ops listed↔(∃ o,ops[i]?=some o∧∀ x∈o.after,Region.binds .any x=true→listed.getD x.on false=true):=fun h=>by
          constructor
          · intro h1
            obtain⟨_,o,ho,h2⟩:=mem_ready.1 h1
            exact⟨o,ho,h2⟩
          · rintro⟨o,ho,h2⟩
            refine mem_ready.2 ⟨?_,o,ho,h2⟩
            simp [hz,h] at hun ⊢; exact hun
        have hm:i∈Region.ready .any ops listed:=by
          refine (hun' (by omega)).2 ?_
          rcases Nat.lt_or_ge i tr.length with hlt | hge
          · obtain⟨l,te,r,e,hr⟩:=cut_at tr i hlt
            have hop:=(Valid.app (l:=l) (r:=te::r) (by rw[←e]; exact hv)).2.1
            rw[hr] at hop
            refine⟨te.o,hop,fun x hx hb=>?_⟩
            have h1:edge te x.on=true:=by
              unfold edge
              exact Array.any_eq_true'.2 ⟨x,hx,by simp [hb]⟩
            exact hall _ (by have:=hback l te r e _ h1; omega)
          · obtain rfl:i=tr.length:=by omega
            refine⟨ol,hol,fun x hx hb=>?_⟩
            exact hall _ (hbl _ (by unfold edgeO; exact Array.any_eq_true'.2 ⟨x,hx,by simp [hb]⟩))
        intro h0; rw[h0] at hm; cases hm
      · have⟨k,hk⟩:∃ k,k < i∧listed.getD k false=false:=by
          apply Classical.byContradiction
          intro hno
          refine hall fun k hk=>?_
          cases hkl:listed.getD k false with
          | true=>rfl
          | false=>exact absurd ⟨k,hk,hkl⟩ hno
        exact ih k hk.1 (by omega) hk.2
  intro f
  induction f with
  | zero =>
    intro listed a C hz hunl hunl2 hcnt hc hD h
    exfalso
    have:0 < (List.range ops.size).countP (fun i=>!listed.getD i false):=List.countP_pos_iff.2 ⟨tr.length,List.mem_range.2 (by omega),by rw[hunl]; rfl⟩
    omega
  | succ f ih =>
    intro listed a C hz hunl hunl2 hcnt hc hD h
    refine⟨fun h0=>absurd h0 (first listed hz tr.length (Nat.le_refl _) hunl),fun i hi=>?_⟩
    obtain⟨hun,o,ho,hall⟩:=mem_ready.1 hi
    have hlt:i < ops.size:=(Array.getElem?_eq_some_iff.1 ho).1
    have hun':listed.getD i false=false:=by simp [hz,hlt] at hun ⊢; exact hun
    rcases Nat.lt_or_ge i tr.length with hilt | hige
    · obtain⟨l,te,r,e,hr⟩:=cut_at tr i hilt
      subst hr
      have hte:=edge_of e ho
      subst hte
      have hS:∀ j,(listed.setIfInBounds r.length true).getD j false=(listed.getD j false||j==r.length):=by
        intro j
        by_cases hj:r.length=j
        · subst hj; simp [hz,hlt]
        · rw[getD_set_ne false hj]
          have:(j==r.length)=false:=by simp; omega
          rw[this,Bool.or_false]
      have hdeps:∀ k,k < r.length→edge te k=true→listed.getD k false=true:=by
        intro k _ hk
        unfold edge at hk
        obtain⟨x,hx,hb⟩:=Array.any_eq_true'.1 hk
        simp only[Bool.and_eq_true,beq_iff_eq] at hb
        rw[←hb.2]; exact hall x hx hb.1
      have hclT:∀(f j k:Nat) (o:Oper),j < tr.length→ops[j]?=some o→listed.getD j false=true→reach ops f o k=true→listed.getD k false=true:=fun f j k o hj0 ho hj hk=>reach_closedL (S:=fun i=>listed.getD i false) hv hback hc f j k o hj0 ho hj hk
      have hdT:∀ k,k < r.length→edT ops te k=true→listed.getD k false=true:=fun k _ hk=>by
        rcases reach_inv hk with h1 | ⟨j',f',o',h1,h2,h3,h4⟩
        · exact hdeps k (hback l te r e k h1) h1
        · have hj':=hback l te r e j' h1
          exact hclT f' j' k o' (by omega) h2 (hdeps j' hj' h1) h3
      have hcT:Closed (fun i=>listed.getD i false) (edT ops) tr:=fun l' te' r' e' hs k _ hk=>hclT 6 r'.length k te'.o (by rw[e']; simp; omega) (Valid.app (l:=l') (r:=te'::r') (by rw[←e']; exact hv)).2.1 hs hk
      refine PS.step (S:=fun i=>listed.getD i false) e hv (apart_mono (fun te k h=>edge_edT h) hT) hM hal0 hG hcT hun' hdT h ?_
      intro v C' hd' h'
      have hS':(fun j=>(listed.setIfInBounds r.length true).getD j false)=fun j=>listed.getD j false||j==r.length:=funext hS
      refine ih _ _ C' (by simp [hz]) (by rw[hS,hunl]; simp; omega) (by rw[hS,hunl2]; simp; omega) ?_ ?_ (by rw[←hd']; exact hD) (by rw[hS']; exact h')
      · have:=countP_lt (p:=fun i=>!listed.getD i false) (q:=fun i=>!(listed.setIfInBounds r.length true).getD i false) (List.range ops.size) (x:=r.length) (fun y _ hy=>by
          simp only[hS,Bool.not_or,Bool.and_eq_true] at hy; exact hy.1) (List.mem_range.2 hlt) (by rw[hun']; rfl) (by simp only[hS]; simp)
        omega
      · intro l' te' r' e' hs k hk hek
        simp only[hS,Bool.or_eq_true,beq_iff_eq] at hs ⊢
        rcases hs with hs | hs
        · exact .inl (hc l' te' r' e' hs k hk hek)
        · left
          have:te'=te:=by
            have h2:l++te::r=l'++te'::r':=by rw[←e,←e']
            have h3:=List.append_inj' h2 (by simp [hs])
            simp only[List.cons.injEq] at h3
            exact h3.2.1.symm
          subst this
          exact hdeps k (by omega) hek
    · have hne2:i≠tr.length + 1:=by
        rintro rfl
        rw[ho2] at ho
        cases ho
        unfold edgeO at h2e
        obtain⟨x,hx,hb⟩:=Array.any_eq_true'.1 h2e
        simp only[Bool.and_eq_true,beq_iff_eq] at hb
        have:=hall x hx hb.1
        rw[hb.2,hunl] at this
        cases this
      obtain rfl:i=tr.length:=by omega
      have hoe:o=ol:=by rw[hol] at ho; exact (Option.some.inj ho).symm
      subst hoe
      have hdir:∀ k,edgeO o k=true→listed.getD k false=true:=fun k hk=>by
        unfold edgeO at hk
        obtain⟨x,hx,hb⟩:=Array.any_eq_true'.1 hk
        simp only[Bool.and_eq_true,beq_iff_eq] at hb
        rw[←hb.2]; exact hall x hx hb.1
      have hS:∀ i,i < tr.length→listed.getD i false=true:=fun k hk=>by
        rcases reach_inv (hlast k hk) with h1 | ⟨j',f',o',h1,h2,h3,h4⟩
        · exact hdir k h1
        · exact reach_closedL (S:=fun i=>listed.getD i false) hv hback hc f' j' k o' (hbl j' h1) h2 (hdir j' h1) h3
      have hps:PS B C0 N tm0 m0 tr (fun _=>true) a C:=by
        have e1:look wrM m0 (fun i=>listed.getD i false) tr=look wrM m0 (fun _=>true) tr:=by funext k; exact look_every k tr hS
        have e2:∀ t,look wrT tm0 (fun i=>listed.getD i false) tr t=look wrT tm0 (fun _=>true) tr t:=fun t=>look_every t tr hS
        refine⟨h.kp,by rw[←e1]; exact h.sr,fun t=>by rw[←e2]; exact h.tm t,fun id hid=>?_,h.size⟩
        rcases h.al id hid with h1 | ⟨l,te,r,e,_,h2⟩
        · exact .inl h1
        · exact .inr ⟨l,te,r,e,rfl,h2⟩
      have hS':∀ j,(listed.setIfInBounds tr.length true).getD j false=(listed.getD j false||j==tr.length):=by
        intro j
        by_cases hj:tr.length=j
        · subst hj; simp [hz,hlt]
        · rw[getD_set_ne false hj]
          have:(j==tr.length)=false:=by simp; omega
          rw[this,Bool.or_false]
      refine hQ a C hD hps _ fun a' w' hq=>?_
      have hc1:=countP_lt (p:=fun i=>!listed.getD i false) (q:=fun i=>!(listed.setIfInBounds tr.length true).getD i false) (List.range ops.size) (x:=tr.length) (fun y _ hy=>by
        simp only[hS',Bool.not_or,Bool.and_eq_true] at hy; exact hy.1) (List.mem_range.2 hlt) (by rw[hun']; rfl) (by simp only[hS']; simp)
      have hc2:0 < (List.range ops.size).countP (fun i=>!(listed.setIfInBounds tr.length true).getD i false):=List.countP_pos_iff.2 ⟨tr.length + 1,List.mem_range.2 (by omega),by rw[hS',hunl2]; simp⟩
      obtain⟨f,rfl⟩:∃ f',f=f' + 1:=⟨f - 1,by omega⟩
      have hall2:∀ k,k < tr.length + 1→(listed.setIfInBounds tr.length true).getD k false=true:=fun k hk=>by
        rw[hS']
        rcases Nat.lt_or_ge k tr.length with q | q
        · rw[hS k q]; rfl
        · have:k=tr.length:=by omega
          simp [this]
      have hz2:(listed.setIfInBounds tr.length true).size=ops.size:=by simp [hz]
      have hun2:(listed.setIfInBounds tr.length true).getD (tr.length + 1) false=false:=by rw[hS',hunl2]; simp
      have hready:tr.length + 1∈Region.ready .any ops (listed.setIfInBounds tr.length true):=by
        refine mem_ready.2 ⟨?_,o2,ho2,fun x hx hb=>hall2 _ (h2b _ (by unfold edgeO; exact Array.any_eq_true'.2 ⟨x,hx,by simp [hb]⟩))⟩
        have hlt2:tr.length + 1 < ops.size:=by omega
        simp [hz,hlt2] at hun2 ⊢; exact hun2
      refine⟨fun h0=>(by rw[h0] at hready; cases hready),fun j hj=>?_⟩
      obtain⟨hu,o',ho',_⟩:=mem_ready.1 hj
      have hjl:j < ops.size:=(Array.getElem?_eq_some_iff.1 ho').1
      have hj2:j=tr.length + 1:=by
        apply Classical.byContradiction
        intro hne
        have h2:=hall2 j (by omega)
        simp [hz,hjl] at hu h2
        rw[h2] at hu; cases hu
      subst hj2
      refine hq _ fun a2 w2 hq2=>?_
      have hnil:Region.ready .any ops ((listed.setIfInBounds tr.length true).setIfInBounds (tr.length + 1) true)=[]:=by
        apply Classical.byContradiction
        intro hne
        obtain⟨j,hj⟩:=List.exists_mem_of_ne_nil _ hne
        obtain⟨hu,o',ho',_⟩:=mem_ready.1 hj
        have hjl:j < ops.size:=(Array.getElem?_eq_some_iff.1 ho').1
        by_cases hje:tr.length + 1=j
        · subst hje; simp [hz,hjl] at hu
        · have h2:((listed.setIfInBounds tr.length true).setIfInBounds (tr.length + 1) true).getD j false=true:=by
            rw[getD_set_ne false hje]; exact hall2 j (by omega)
          simp [hz,hjl] at hu h2
          rw[h2] at hu; cases hu
      cases f with
      | zero=>exact⟨hnil,hq2⟩
      | succ f=>exact⟨fun _=>hq2,fun j hj=>by rw[hnil] at hj; cases hj⟩
end Go.Ab
set_option linter.constructorNameAsVariable false
namespace Go.K
open Go.Ab Go.RowKit Go.Y
noncomputable section
variable [Gl]
def Imp (v w:V):Prop:=∀ C m,R C v m→R C w m
omit [Gl] in
theorem Imp.refl (v:V):Imp v v:=fun _ _ h=>h
def lpK (k:Kind):Bool:=match k with
  | .lp ..=>true
  | _=>false
def BImp (b c:Blk):Prop:=c.k=.dead∨(b.k=c.k∧b.sh=c.sh∧Imp b.v c.v∧(lpK c.k=true→b.v=c.v))
omit [Gl] in
theorem BImp.refl (b:Blk):BImp b b:=.inr ⟨rfl,rfl,Imp.refl _,fun _=>rfl⟩
omit [Gl] in
theorem BImp.alive {b c:Blk}(h:BImp b c) (ha:c.alive=true):b.alive=true:=by
  rcases h with h | ⟨h,_⟩
  · unfold Blk.alive at ha; rw[h] at ha; cases ha
  · unfold Blk.alive at ha ⊢; rw[h]; exact ha
omit [Gl] in
theorem BImp.live {b c:Blk}(h:BImp b c) (ha:c.live=true):b.live=true:=by
  rcases h with h | ⟨h,_⟩
  · unfold Blk.live at ha; rw[h] at ha; cases ha
  · unfold Blk.live at ha ⊢; rw[h]; exact ha
omit [Gl] in
theorem br_imp {B:Nat}{C:Ctx}{id:Nat}{b c:Blk}(h:BR B C id b) (hi:BImp b c):BR B C id c:=by
  rcases hi with hi | ⟨hk,hs,hv,hl⟩
  · unfold BR; rw[hi]; trivial
  · unfold BR at h ⊢
    rw[hk] at h
    cases hkd:c.k<;>simp only[hkd] at h ⊢
    · obtain⟨g,cur,e,h1,h2,h3,h4,h5,h6,hT⟩:=h
      rw[hs] at h4 h5 h6
      exact⟨g,cur,e,h1,h2,h3,h4,h5,hv _ _ h6,hT⟩
    · obtain⟨n1,s,cells,h1,h2,h3,h4⟩:=h
      rw[hs] at h1 h2 h4
      exact⟨n1,s,cells,h1,h2,h3,hv _ _ h4⟩
    · rw[←hl (by rw[hkd]; rfl)]; exact h
    · obtain⟨g,es,clk,h1,h2,h3,h4⟩:=h
      exact⟨g,es,clk,h1,h2,h3,hv _ _ h4⟩
def MImp (m m':Mem):Prop:=∀ id c,m' id=some c→∃ b,m id=some b∧BImp b c
omit [Gl] in
theorem MImp.refl (m:Mem):MImp m m:=fun id c h=>⟨c,h,BImp.refl c⟩
theorem sr_imp {B:Nat}{C:Ctx}{m m':Mem}(h:SR B C m) (hi:MImp m m'):SR B C m' where
  base:=h.base
  okLt:=h.okLt
  al:=fun id c hc=>by obtain⟨b,hb,_⟩:=hi id c hc; exact h.al id b hb
  mem:=fun id c hc=>by obtain⟨b,hb,q⟩:=hi id c hc; exact br_imp (h.mem id b hb) q
  sep:=fun id id' c c' b h1 h2 h3 h4 h5 h6=>by
    obtain⟨b1,hb1,q1⟩:=hi id c h1
    obtain⟨b2,hb2,q2⟩:=hi id' c' h3
    exact h.sep id id' b1 b2 b hb1 (q1.live h2) hb2 (q2.live h4) h5 h6
  own:=fun id c b h1 h2 h3 u=>by
    obtain⟨b1,hb1,q1⟩:=hi id c h1
    exact h.own id b1 b hb1 (q1.live h2) h3 u
  gl:=h.gl
structure EImp (e e':Eff):Prop where
  v:Imp e.v e'.v
  rd:e'.rd=e.rd
  up:e'.up.map (·.1)=e.up.map (·.1)
  len:e'.nw.length=e.nw.length
  put:∀ M n,MImp (put M n e) (put M n e')
omit [Gl] in
theorem EImp.refl (e:Eff):EImp e e:=⟨Imp.refl _,rfl,rfl,rfl,fun M n=>MImp.refl _⟩
omit [Gl] in
theorem EImp.val {v w:V}{up:List (Nat×Blk)}{nw:List Blk}{rd:List Nat}(h:Imp v w):EImp ⟨v,up,nw,rd⟩ ⟨w,up,nw,rd⟩:=⟨h,rfl,rfl,rfl,fun M n=>MImp.refl _⟩
omit [Gl] in
theorem MImp.upd {m:Mem}{id:Nat}{b c:Blk}(h:BImp b c):MImp (upd m id (some b)) (upd m id (some c)):=fun i x hx=>by
  by_cases hi:i=id
  · subst hi; rw[upd_same] at hx ⊢; cases hx; exact⟨b,rfl,h⟩
  · rw[upd_other _ _ hi] at hx ⊢; exact⟨x,hx,BImp.refl x⟩
omit [Gl] in
theorem EImp.new {v w:V}{b c:Blk}{rd:List Nat}(h:Imp v w) (hb:BImp b c):EImp ⟨v,[],[b],rd⟩ ⟨w,[],[c],rd⟩:=⟨h,rfl,rfl,rfl,fun M n=>by rw[put_new,put_new]; exact MImp.upd hb⟩
omit [Gl] in
theorem EImp.up1 {v w:V}{id:Nat}{b c:Blk}{rd:List Nat}(h:Imp v w) (hb:BImp b c):EImp ⟨v,[(id,b)],[],rd⟩ ⟨w,[(id,c)],[],rd⟩:=⟨h,rfl,rfl,rfl,fun M n=>by rw[put_up,put_up]; exact MImp.upd hb⟩
theorem opsem_imp {P:Program}{B:Nat}{o:Oper}{ρ:Operand→V}{m:Mem}{n:Nat}{e e':Eff}(h:OpSem P B o ρ m n e) (hi:EImp e e'):OpSem P B o ρ m n e':=by
  intro C M ρc h1 h2 h3 h4 h5
  rw[hi.rd] at h2
  rw[hi.len] at h4
  refine (h C M ρc h1 h2 (fun x hx=>?_) h4 h5).mono ?_
  · have:x.1∈e'.up.map (·.1):=by rw[hi.up]; exact List.mem_map_of_mem hx
    obtain⟨y,hy,e1⟩:=List.mem_map.1 this
    rw[←e1]; exact h3 y hy
  · rintro v w ⟨C',hw,hR,hK,hS,hal⟩
    exact⟨C',hw,hi.v _ _ hR,hK,sr_imp hS (hi.put M n),by rw[hi.len]; exact hal⟩
omit [Gl] in
theorem upin_imp {m:Mem}{e e':Eff}(h:UpIn m e) (hi:EImp e e'):UpIn m e' where
  up:=fun x hx=>by
    have:x.1∈e.up.map (·.1):=by rw[←hi.up]; exact List.mem_map_of_mem hx
    obtain⟨y,hy,e1⟩:=List.mem_map.1 this
    rw[←e1]; exact h.up y hy
  rd:=by rw[hi.rd]; exact h.rd
structure GR (B H:Nat) (C:Ctx) (M:Mem) (μ:Mem) (nx:Nat):Prop where
  sr:SR B C M
  sub:Sub μ M
  al:∀ id,nx≤id→id < H→¬ C.al id
structure GC (B H:Nat) (C:Ctx) (M:Mem) (μ:Mem) (nx:Nat) (C':Ctx) (M':Mem) (μ':Mem) (nx':Nat):Prop where
  kp:Kp B C C'
  al:∀ id,C'.al id→C.al id∨(nx≤id∧id < nx')
  fr:∀ id,(id < nx∨H≤id)→μ id=none→M' id=M id∧μ' id=none
omit [Gl] in
theorem GC.refl {B H:Nat}(C:Ctx) (M μ:Mem) (nx:Nat):GC B H C M μ nx C M μ nx:=⟨Kp.refl B C,fun _ h=>.inl h,fun _ _ h=>⟨rfl,h⟩⟩
omit [Gl] in
theorem GC.trans {B H:Nat}{C C' C'':Ctx}{M M' M'':Mem}{μ μ' μ'':Mem}{nx nx' nx'':Nat}(h:GC B H C M μ nx C' M' μ' nx') (k:GC B H C' M' μ' nx' C'' M'' μ'' nx'') (h1:nx≤nx') (h2:nx'≤nx''):GC B H C M μ nx C'' M'' μ'' nx'' :=
  ⟨h.kp.trans k.kp,fun id hid=>by
    rcases k.al id hid with h3 | h3
    · rcases h.al id h3 with h4 | h4
      · exact .inl h4
      · exact .inr ⟨h4.1,by omega⟩
    · exact .inr ⟨by omega,h3.2⟩,fun id hid hn=>by
    obtain⟨h3,h4⟩:=h.fr id hid hn
    obtain⟨h5,h6⟩:=k.fr id (by omega) h4
    exact⟨h5.trans h3,h6⟩⟩
def MB (μ:Mem) (nx:Nat):Prop:=∀ id,nx≤id→μ id=none
structure GT (C:Ctx) (τ:Nat→V) (a:Act) (N:Nat):Prop where
  tv:∀ t,R C (τ t) (.val (a.tmps.getD t undef))
  size:N≤a.tmps.size
omit [Gl] in
theorem GT.keep {C C':Ctx}{τ:Nat→V}{a:Act}{N:Nat}(h:GT C τ a N) (hk:Keep C C'):GT C' τ a N:=⟨fun t=>R.keep hk _ _ (h.tv t),h.size⟩
def TImp (τ τ':Nat→V):Prop:=∀ t x C,R C (τ t) (.val x)→R C (τ' t) (.val x)
omit [Gl] in
theorem TImp.refl (τ:Nat→V):TImp τ τ:=fun _ _ _ h=>h
omit [Gl] in
theorem GT.imp {C:Ctx}{τ τ':Nat→V}{a:Act}{N:Nat}(h:GT C τ a N) (hi:TImp τ τ'):GT C τ' a N:=⟨fun t=>hi t _ _ (h.tv t),h.size⟩
def putF (d:Option Tmp) (v:V) (τ:Nat→V):Nat→V:=match d with | some d=>fun t=>if t=d then v else τ t | none=>τ
omit [Gl] in
theorem GT.put {C:Ctx}{τ:Nat→V}{a:Act}{N:Nat}(h:GT C τ a N) {d:Option Tmp}{v:V}{val:Value}(hd:dOk N d=true) (hr:R C v (.val val)):GT C (putF d v τ) (a.put d val) N:=by
  cases d with
  | none=>exact⟨h.tv,h.size⟩
  | some d =>
    have hd':d < N:=by simpa [dOk] using hd
    refine⟨fun t=>?_,?_⟩
    · rw[put_getD rfl (show d < a.tmps.size from Nat.lt_of_lt_of_le hd' h.size)]
      by_cases hdt:d=t
      · subst hdt
        rw[if_pos rfl]
        simp only[putF,if_true]; exact hr
      · rw[if_neg hdt]
        simp only[putF,if_neg (fun e:t=d=>hdt e.symm)]; exact h.tv t
    · show N≤(a.put (some d) val).tmps.size
      simpa [Act.put] using h.size
theorem GT.operand {C:Ctx}{τ:Nat→V}{a:Act}{N:Nat}(h:GT C τ a N) (hg:∀ g,R C (Gl.G g) (.val (.pointer (some ⟨g,0,none⟩)))) (x:Operand):R C (opv Gl.G τ x) (.val (a.eval x)):=by
  cases x with
  | tmp t=>exact h.tv t
  | const v=>exact R.ofVal C v
  | global g=>exact hg g
  | func f=>exact R.fnop f
theorem GR.weak {B H:Nat}{C0 C:Ctx}{M0 M μ0 μ μ':Mem}{nx0 nx nx':Nat}(h:GR B H C M μ nx) (hc:GC B H C0 M0 μ0 nx0 C M μ nx) (hi:MImp μ μ') (hn:nx≤nx'):∃ M',GR B H C M' μ' nx'∧GC B H C0 M0 μ0 nx0 C M' μ' nx'∧∀ id,μ id=none→M' id=M id∧μ' id=none:=by
  have hno:∀ id,μ id=none→μ' id=none:=fun id h1=>by
    cases h2:μ' id with
    | none=>rfl
    | some c=>obtain⟨b,hb,_⟩:=hi id c h2; rw[h1] at hb; cases hb
  refine⟨fun id=>match μ' id with | some c=>some c | none=>M id,⟨sr_imp h.sr ?_,?_,fun id h1 h2=>h.al id (by omega) h2⟩,⟨hc.kp,fun id hid=>(hc.al id hid).imp (fun h=>h) fun h=>⟨h.1,by omega⟩,?_⟩,fun id h1=>⟨by simp only[hno id h1],hno id h1⟩⟩
  · intro id c hx
    replace hx:(match μ' id with | some c=>some c | none=>M id)=some c:=hx
    cases h2:μ' id with
    | none=>rw[h2] at hx; exact⟨c,hx,BImp.refl c⟩
    | some c' =>
      rw[h2] at hx; cases hx
      obtain⟨b,hb,q⟩:=hi id c h2
      exact⟨b,h.sub _ _ hb,q⟩
  · intro id c h1
    simp only[h1]
  · intro id hid h1
    obtain⟨q1,q2⟩:=hc.fr id hid h1
    refine⟨?_,hno id q2⟩
    simp only[hno id q2]
    exact q1
structure Side (ro:Option Nat) (n0:Nat) (H:Nat) (C:Ctx) (M μ:Mem) (nx:Nat) (ds:List Deferred):Prop where
  df:∀ d∈ds,∃ id D k ps x y sh,(n0≤id + 1∧(id < nx∨(n0=0∧H≤id)))∧μ id=none∧M id=some ⟨.lp k ps x y,sh,.nilf⟩∧C.sv id=.pointer (some ⟨D,0,none⟩)∧d=⟨.collected D,#[]⟩
  nd:ds.Nodup
  le:n0≤nx + 1
  rd:∀ l,ro=some l→∃ id k ps x y sh st n τ,id < nx∧μ id=none∧M id=some ⟨.lp k ps x y,sh,.cons st (.arr n τ)⟩∧C.sv id=.func (.yield l) #[] #[]
theorem Side.next {ro:Option Nat}{n0 B H:Nat}{C C':Ctx}{M M' μ μ':Mem}{nx nx':Nat}{ds:List Deferred}(h:Side ro n0 H C M μ nx ds) (hr:SR B C M) (hc:GC B H C M μ nx C' M' μ' nx') (hle:nx≤nx'):Side ro n0 H C' M' μ' nx' ds where
  df:=fun d hd=>by
    obtain⟨id,D,k,ps,x,y,sh,h1,h2,h3,h4,h5⟩:=h.df d hd
    obtain⟨q1,q2⟩:=hc.fr id (h1.2.imp (fun h=>h) And.right) h2
    exact⟨id,D,k,ps,x,y,sh,by omega,q2,by rw[q1]; exact h3,by rw[hc.kp.sv _ (hr.al _ _ h3)]; exact h4,h5⟩
  nd:=h.nd
  le:=Nat.le_trans h.le (Nat.succ_le_succ hle)
  rd:=fun l hl=>by
    obtain⟨id,k,ps,x,y,sh,st,n,τ,h1,h2,h3,h4⟩:=h.rd l hl
    obtain⟨q1,q2⟩:=hc.fr id (.inl h1) h2
    exact⟨id,k,ps,x,y,sh,st,n,τ,by omega,q2,by rw[q1]; exact h3,by rw[hc.kp.sv _ (hr.al _ _ h3)]; exact h4⟩
omit [Gl] in
theorem Side.weak {ro:Option Nat}{n0 H:Nat}{C:Ctx}{M M' μ μ':Mem}{nx nx':Nat}{ds:List Deferred}(h:Side ro n0 H C M μ nx ds) (hle:nx≤nx') (hm:∀ id,μ id=none→M' id=M id∧μ' id=none):Side ro n0 H C M' μ' nx' ds where
  df:=fun d hd=>by
    obtain⟨id,D,k,ps,x,y,sh,h1,h2,h3,h4,h5⟩:=h.df d hd
    obtain⟨q1,q2⟩:=hm id h2
    exact⟨id,D,k,ps,x,y,sh,by omega,q2,by rw[q1]; exact h3,h4,h5⟩
  nd:=h.nd
  le:=Nat.le_trans h.le (Nat.succ_le_succ hle)
  rd:=fun l hl=>by
    obtain⟨id,k,ps,x,y,sh,st,n,τ,h1,h2,h3,h4⟩:=h.rd l hl
    obtain⟨q1,q2⟩:=hm id h2
    exact⟨id,k,ps,x,y,sh,st,n,τ,by omega,q2,by rw[q1]; exact h3,h4⟩
def GDoes (P:Program) (B:Nat) (o:Oper) (τ:Nat→V) (μ:Mem) (nx:Nat) (v:V) (μ':Mem) (nx' mx':Nat):Prop :=
  ∀(H:Nat) (C:Ctx) (M:Mem) (ρc:Operand→Value),nx'≤H→mx'≤H→GR B H C M μ nx→(∀ x∈o.op.operands.toList,R C (opv Gl.G τ x) (.val (ρc x))) →
    Does P (execOp ρc o) C.w fun val w'=>∃ C' M',C'.w=w'∧R C' v (.val val)∧GR B H C' M' μ' nx'∧GC B H C M μ nx C' M' μ' nx'
theorem GDoes.imp {P:Program}{B:Nat}{o:Oper}{τ:Nat→V}{μ:Mem}{nx:Nat}{v v2:V}{μ' μ2:Mem}{nx' nx2 mx' mx2:Nat}(h:GDoes P B o τ μ nx v μ' nx' mx') (hv:Imp v v2) (hm:MImp μ' μ2) (hn:nx'≤nx2) (hx:mx'≤mx2):GDoes P B o τ μ nx v2 μ2 nx2 mx2:=by
  intro H C M ρc hH hH2 hr ho
  refine (h H C M ρc (by omega) (by omega) hr ho).mono ?_
  rintro val w' ⟨C',M',hw,hR,hz,hc⟩
  obtain⟨M2,q1,q2,_⟩:=hz.weak hc hm hn
  exact⟨C',M2,hw,hv _ _ hR,q1,q2⟩
def GOp (P:Program) (B:Nat) (o:Oper) (τ:Nat→V) (μ:Mem) (nx:Nat) (v:V) (μ':Mem) (nx' mx':Nat):Prop :=
  ∀(ro:Option Nat) (H:Nat) (C:Ctx) (M:Mem) (a:Act) (K:Act→World→Prop) (Q:Exit→Act→World→Prop),nx'≤H→mx'≤H→GR B H C M μ nx→(∀ x∈o.op.operands.toList,R C (opv Gl.G τ x) (.val (a.eval x))) →
    (∀ val C' M',R C' v (.val val)→GR B H C' M' μ' nx'→GC B H C M μ nx C' M' μ' nx'→K (a.put o.dst val) C'.w)→o.wpIn (FR ro) 0 P a C.w K Q
theorem GDoes.op {P:Program}{B:Nat}{o:Oper}{τ:Nat→V}{μ:Mem}{nx:Nat}{v:V}{μ':Mem}{nx' mx':Nat}(h:GDoes P B o τ μ nx v μ' nx' mx'):GOp P B o τ μ nx v μ' nx' mx':=by
  intro ro H C M a K Q hH hH2 hr ho hK
  refine Does.wpR (h H C M a.eval hH hH2 hr ho) ?_
  rintro val w' ⟨C',M',rfl,q2,q3,q4⟩
  exact hK val C' M' q2 q3 q4
structure GSt (P:Program) (B:Nat) (o:Oper) (τ:Nat→V) (μ μ':Mem) (nx nx':Nat) (v:V) (up rd:List Nat) (e:Eff):Prop where
  val:e.v=v
  nxt:nx'=nx + e.nw.length
  ups:e.up.map (·.1)=up
  rds:e.rd=rd
  upk:∀ x∈e.up,∃ b,μ x.1=some b
  kn:∀ id,(id < nx∨nx'≤id)→μ id=none→μ' id=none
  sem:∀ M,Sub μ M→OpSem P B o (opv Gl.G τ) M nx e
  sub:MB μ nx→∀ M,Sub μ M→Sub μ' (put M nx e)
section
variable {P:Program}{B:Nat}{o:Oper}{τ:Nat→V}{μ:Mem}{nx:Nat}
omit [Gl] in
theorem touch_none {e:Eff}{n id:Nat}(h1:id < n∨n + e.nw.length≤id) (h2:∀ x∈e.up,x.1≠id):touch e n id=none:=by
  unfold touch
  rw[if_neg (by omega)]
  cases hl:e.up.lookup id with
  | none=>rfl
  | some b =>
    exfalso
    obtain⟨x,hx,rfl⟩:=lookup_mem hl
    exact h2 x hx rfl
theorem GSt.of {e:Eff}(hs:OpSem P B o (opv Gl.G τ) μ nx e) (hu:UpIn μ e):GSt P B o τ μ (put μ nx e) nx (nx + e.nw.length) e.v (e.up.map (·.1)) e.rd e:=by
  refine⟨rfl,rfl,rfl,rfl,hu.up,fun id hid hn=>?_,fun M hM=>OpSem.agree hs (fun id hid=>?_) (fun x hx=>?_),fun hkb M hM id b hb=>?_⟩
  · have:touch e nx id=none:=touch_none hid fun x hx e1=>by
      obtain⟨b,hb⟩:=hu.up x hx
      rw[e1,hn] at hb; cases hb
    simp only[put,this]; exact hn
  · obtain⟨b,hb⟩:=hu.rd id hid
    rw[hb,hM _ _ hb]
  · obtain⟨b,hb⟩:=hu.up x hx
    rw[hb,hM _ _ hb]
  · unfold put at hb ⊢
    cases ht:touch e nx id with
    | some c=>rw[ht] at hb; exact hb
    | none=>rw[ht] at hb; exact hM _ _ hb
theorem GSt.does {μ':Mem}{nx':Nat}{v:V}{up rd:List Nat}{e:Eff}(h:GSt P B o τ μ μ' nx nx' v up rd e) (hkb:MB μ nx) (mx:Nat):GDoes P B o τ μ nx v μ' nx' mx:=by
  intro H C M ρc hH _ hr ho
  have hnx:=h.nxt
  refine Does.mono ?_ (h.sem M hr.sub C M ρc hr.sr (fun _ _=>rfl) (fun _ _=>rfl) (fun i hi=>hr.al _ (by omega) (by omega)) ho)
  rintro val w' ⟨C',hw,hR,hK,hS,hal⟩
  rw[h.val] at hR
  have hal':∀ id,C'.al id→C.al id∨(nx≤id∧id < nx'):=fun id hid=>by
    rcases hal id hid with h1 | h1
    · exact .inl h1
    · exact .inr ⟨h1.1,by omega⟩
  refine⟨C',_,hw,hR,⟨hS,h.sub hkb M hr.sub,fun id h1 h2 h3=>?_⟩,⟨hK,hal',fun id hid hn=>⟨?_,h.kn id (by omega) hn⟩⟩⟩
  · rcases hal' id h3 with h4 | h4
    · exact hr.al id (by omega) h2 h4
    · omega
  · have ht:touch e nx id=none:=by
      unfold touch
      rw[if_neg (by omega)]
      cases hl:e.up.lookup id with
      | none=>rfl
      | some b =>
        exfalso
        obtain⟨x,hx,e1⟩:=lookup_mem hl
        obtain⟨b',hb'⟩:=h.upk x hx
        rw[e1,hn] at hb'; cases hb'
    simp only[put,ht]
theorem GSt.mb {μ':Mem}{nx':Nat}{v:V}{up rd:List Nat}{e:Eff}(h:GSt P B o τ μ μ' nx nx' v up rd e) (hk:MB μ nx):MB μ' nx' :=
  fun id hid=>h.kn id (.inr hid) (hk id (by have:=h.nxt; omega))
end
structure GF (ro:Option Nat) (n0:Nat) (B H:Nat) (C:Ctx) (M:Mem) (μ:Mem) (nx:Nat) (N:Nat) (τ':Nat→V) (μ':Mem) (nx':Nat) (C':Ctx) (M':Mem) (a':Act):Prop where
  yr:GR B H C' M' μ' nx'
  yt:GT C' τ' a' N
  yc:GC B H C M μ nx C' M' μ' nx'
  sd:Side ro n0 H C' M' μ' nx' a'.defers
def GFin (ro:Option Nat) (n0:Nat) (B H:Nat) (C:Ctx) (M:Mem) (μ:Mem) (nx:Nat) (N:Nat) (e:Exit) (τ':Nat→V) (μ':Mem) (nx':Nat) (e':Exit) (a':Act) (w':World):Prop :=
  e'=e∧∃ C' M',C'.w=w'∧GF ro n0 B H C M μ nx N τ' μ' nx' C' M' a'
def GRuns (P:Program) (B:Nat) (c:Code) (τ:Nat→V) (μ:Mem) (nx:Nat) (N:Nat) (e:Exit) (τ':Nat→V) (μ':Mem) (nx' mx':Nat):Prop :=
  ∀(ro:Option Nat) (n0:Nat) (H:Nat) (C:Ctx) (M:Mem) (a:Act),nx'≤H→mx'≤H→GR B H C M μ nx→GT C τ a N→Side ro n0 H C M μ nx a.defers→c.wpIn (FR ro) 0 P (GFin ro n0 B H C M μ nx N e τ' μ' nx') a C.w
theorem GRuns.imp {P:Program}{B:Nat}{c:Code}{τ τ' τ2:Nat→V}{μ μ' μ2:Mem}{nx nx' nx2 mx' mx2 N:Nat}{e:Exit}(h:GRuns P B c τ μ nx N e τ' μ' nx' mx') (ht:TImp τ' τ2) (hm:MImp μ' μ2) (hn:nx'≤nx2) (hx:mx'≤mx2):GRuns P B c τ μ nx N e τ2 μ2 nx2 mx2:=by
  intro ro n0 H C M a hH hH2 hz hta hsd
  refine wpIn_mono (h ro n0 H C M a (by omega) (by omega) hz hta hsd) ?_
  rintro e' a' w' ⟨rfl,C',M',rfl,hf⟩
  obtain⟨M2,q1,q2,q3⟩:=hf.yr.weak hf.yc hm hn
  exact⟨rfl,C',M2,rfl,q1,hf.yt.imp ht,q2,hf.sd.weak hn q3⟩
def GCall (P:Program) (B:Nat) (fid:FuncId) (l:List V) (μ:Mem) (nx:Nat) (v:V) (μ':Mem) (nx' mx':Nat):Prop :=
  ∀(H:Nat) (C:Ctx) (M:Mem) (vals:List Value),nx'≤H→mx'≤H→GR B H C M μ nx→R C (mkL l) (.list vals) →
    Calls P fid vals.toArray C.w fun e w'=>∃ val,e=.returned val∧∃ C' M',C'.w=w'∧R C' v (.val val)∧GR B H C' M' μ' nx'∧GC B H C M μ nx C' M' μ' nx'
section
variable {P:Program}{B N:Nat}{τ τ':Nat→V}{μ μ':Mem}{nx nx' mx mx':Nat}
theorem GCall.imp {fid:FuncId}{l:List V}{v v2:V}{μ2:Mem}{nx2 mx2:Nat}(h:GCall P B fid l μ nx v μ' nx' mx') (hv:Imp v v2) (hm:MImp μ' μ2) (hn:nx'≤nx2) (hx:mx'≤mx2):GCall P B fid l μ nx v2 μ2 nx2 mx2:=by
  intro H C M vals hH hH2 hz hl
  refine (h H C M vals (by omega) (by omega) hz hl).mono ?_
  rintro e w' ⟨val,he,C',M',hw,hR,hz',hc⟩
  obtain⟨M2,q1,q2,_⟩:=hz'.weak hc hm hn
  exact⟨val,he,C',M2,hw,hv _ _ hR,q1,q2⟩
theorem GRuns.skip:GRuns P B .skip τ μ nx N .normal τ μ nx mx:=fun ro n0 H C M a _ _ hz ht hsd=>wpIn_skip ⟨rfl,C,M,rfl,hz,ht,GC.refl C M μ nx,hsd⟩
theorem GRuns.label {l:Nat}:GRuns P B (.label l) τ μ nx N .normal τ μ nx mx:=fun ro n0 H C M a _ _ hz ht hsd=>wpIn_label ⟨rfl,C,M,rfl,hz,ht,GC.refl C M μ nx,hsd⟩
theorem GRuns.exit {i:Nat}:GRuns P B (.exit i) τ μ nx N (.exit i) τ μ nx mx:=fun ro n0 H C M a _ _ hz ht hsd=>wpIn_exit ⟨rfl,C,M,rfl,hz,ht,GC.refl C M μ nx,hsd⟩
theorem GRuns.ret:GRuns P B .ret τ μ nx N .ret τ μ nx mx:=fun ro n0 H C M a _ _ hz ht hsd=>wpIn_ret ⟨rfl,C,M,rfl,hz,ht,GC.refl C M μ nx,hsd⟩
theorem GRuns.seq {x y:Code}{e:Exit}{τ1:Nat→V}{μ1:Mem}{nx1 mx1:Nat}(h:GRuns P B x τ μ nx N .normal τ1 μ1 nx1 mx1) (k:GRuns P B y τ1 μ1 nx1 N e τ' μ' nx' mx') (h1:nx≤nx1) (h2:nx1≤nx') (h3:mx1≤mx'):GRuns P B (.seq x y) τ μ nx N e τ' μ' nx' mx':=by
  intro ro n0 H C M a hH hH2 hz ht hsd
  refine wpIn_seq (wpIn_mono (h ro n0 H C M a (by omega) (by omega) hz ht hsd) ?_)
  rintro e' a' w' ⟨rfl,C',M',rfl,hf⟩
  refine wpIn_mono (k ro n0 H C' M' a' hH hH2 hf.yr hf.yt hf.sd) ?_
  rintro e' a'' w' ⟨rfl,C'',M'',rfl,hf'⟩
  exact⟨rfl,C'',M'',rfl,hf'.yr,hf'.yt,hf.yc.trans hf'.yc h1 h2,hf'.sd⟩
theorem GRuns.seqX {x y:Code}{e:Exit}(he:e≠.normal) (h:GRuns P B x τ μ nx N e τ' μ' nx' mx'):GRuns P B (.seq x y) τ μ nx N e τ' μ' nx' mx':=by
  intro ro n0 H C M a hH hH2 hz ht hsd
  refine wpIn_seq (wpIn_mono (h ro n0 H C M a hH hH2 hz ht hsd) ?_)
  rintro e' a' w' ⟨rfl,hf⟩
  cases e' with
  | normal=>exact absurd rfl he
  | _=>exact⟨rfl,hf⟩
theorem GRuns.blockE {id:Nat}{x:Code}(h:GRuns P B x τ μ nx N (.exit id) τ' μ' nx' mx'):GRuns P B (.block id x) τ μ nx N .normal τ' μ' nx' mx':=by
  intro ro n0 H C M a hH hH2 hz ht hsd
  refine wpIn_block (wpIn_mono (h ro n0 H C M a hH hH2 hz ht hsd) ?_)
  rintro e' a' w' ⟨rfl,hf⟩
  simp only[Exit.inBlock,if_true]
  exact⟨rfl,hf⟩
theorem GRuns.blockX {id:Nat}{x:Code}{e:Exit}(he:e≠.exit id) (h:GRuns P B x τ μ nx N e τ' μ' nx' mx'):GRuns P B (.block id x) τ μ nx N e τ' μ' nx' mx':=by
  intro ro n0 H C M a hH hH2 hz ht hsd
  refine wpIn_block (wpIn_mono (h ro n0 H C M a hH hH2 hz ht hsd) ?_)
  rintro e' a' w' ⟨rfl,hf⟩
  cases e' with
  | exit i =>
    have hi:¬ i=id:=fun e1=>he (by rw[e1])
    simp only[Exit.inBlock,hi,if_false]
    exact⟨rfl,hf⟩
  | _=>exact⟨rfl,hf⟩
theorem GRuns.scope {x:Code}{e:Exit}(he:∀ i,e≠.goto i) (h:GRuns P B x τ μ nx N e τ' μ' nx' mx'):GRuns P B (.scope x) τ μ nx N e τ' μ' nx' mx':=by
  intro ro n0 H C M a hH hH2 hz ht hsd
  refine wpIn_sc (wpIn_mono (h ro n0 H C M a hH hH2 hz ht hsd) ?_)
  rintro e' a' w' ⟨rfl,hf⟩
  cases e' with
  | goto i=>exact absurd rfl (he i)
  | _=>exact⟨rfl,hf⟩
theorem GRuns.cond {c:Operand}{x y:Code}{b:Bool}{e:Exit}(hb:opv Gl.G τ c=.bool b) (h:GRuns P B (if b then x else y) τ μ nx N e τ' μ' nx' mx'):GRuns P B (.cond c x y) τ μ nx N e τ' μ' nx' mx':=by
  intro ro n0 H C M a hH hH2 hz ht hsd
  have hev:a.eval c=.bool b:=by
    have:=ht.operand hz.sr.gl c
    rw[hb] at this
    exact this
  cases b with
  | true=>exact wpIn_cond_true hev (h ro n0 H C M a hH hH2 hz ht hsd)
  | false=>exact wpIn_cond_false hev (h ro n0 H C M a hH hH2 hz ht hsd)
inductive GLoop (P:Program) (B:Nat) (c:Code) (N:Nat) (e:Exit) (τ':Nat→V) (μ':Mem) (nx' mx':Nat):Nat→(Nat→V)→Mem→Nat→Prop where
  | out {k:Nat}{τ:Nat→V}{μ:Mem}{nx:Nat}(h:GRuns P B c τ μ nx N e τ' μ' nx' mx') (he:e≠.normal) (hle:nx≤nx'):GLoop P B c N e τ' μ' nx' mx' (k + 1) τ μ nx
  | round {k:Nat}{τ τ1:Nat→V}{μ μ1:Mem}{nx nx1 mx1:Nat}(h:GRuns P B c τ μ nx N .normal τ1 μ1 nx1 mx1) (hle:nx≤nx1) (hlx:mx1≤mx') (h2:GLoop P B c N e τ' μ' nx' mx' k τ1 μ1 nx1):GLoop P B c N e τ' μ' nx' mx' (k + 1) τ μ nx
theorem GLoop.le {c:Code}{k:Nat}{e:Exit}(h:GLoop P B c N e τ' μ' nx' mx' k τ μ nx):nx≤nx':=by
  induction h with
  | out h he hle=>exact hle
  | round h hle _ h2 ih=>omega
theorem GLoop.runs {c:Code}{k:Nat}{e:Exit}(h:GLoop P B c N e τ' μ' nx' mx' k τ μ nx):GRuns P B (.loop c) τ μ nx N e τ' μ' nx' mx':=by
  intro ro n0 H C M a hH hH2 hz ht hsd
  refine wpIn_ghost (fun n a w=>∃ C' M' τ1 μ1 nx1,C'.w=w∧GR B H C' M' μ1 nx1∧GT C' τ1 a N∧GC B H C M μ nx C' M' μ1 nx1∧nx≤nx1∧Side ro n0 H C' M' μ1 nx1 a.defers∧GLoop P B c N e τ' μ' nx' mx' n τ1 μ1 nx1) k ⟨C,M,τ,μ,nx,rfl,hz,ht,GC.refl C M μ nx,Nat.le_refl _,hsd,h⟩ ?_
  rintro n a w ⟨C1,M1,τ1,μ1,nx1,rfl,h1,h2,h3,h4,h6,h5⟩
  cases h5 with
  | out hr he hle =>
    refine wpIn_mono (hr ro n0 H C1 M1 a hH hH2 h1 h2 h6) ?_
    rintro e' a' w' ⟨rfl,C2,M2,rfl,hf⟩
    have hq:GFin ro n0 B H C M μ nx N e' τ' μ' nx' e' a' C2.w:=⟨rfl,C2,M2,rfl,hf.yr,hf.yt,h3.trans hf.yc h4 hle,hf.sd⟩
    cases e' with
    | normal=>exact absurd rfl he
    | _=>exact hq
  | @round k _ τ2 _ μ2 _ nx2 mx2 hr hle hlx h7 =>
    refine wpIn_mono (hr ro n0 H C1 M1 a (by have:=h7.le; omega) (by omega) h1 h2 h6) ?_
    rintro e' a' w' ⟨rfl,C2,M2,rfl,hf⟩
    exact⟨k,by omega,C2,M2,τ2,μ2,nx2,rfl,hf.yr,hf.yt,h3.trans hf.yc h4 hle,by omega,hf.sd,h7⟩
def GReg (P:Program) (B:Nat) (ops:Array Oper) (i n:Nat) (τ:Nat→V) (μ:Mem) (nx:Nat) (N:Nat) (τ':Nat→V) (μ':Mem) (nx' mx':Nat):Prop :=
  ∀(ro:Option Nat) (n0:Nat) (H:Nat) (C:Ctx) (M:Mem) (a:Act) (Q:Exit→Act→World→Prop),nx'≤H→mx'≤H→GR B H C M μ nx→GT C τ a N→Side ro n0 H C M μ nx a.defers→(∀ C' M' a',GF ro n0 B H C M μ nx N τ' μ' nx' C' M' a'→Q .normal a' C'.w)→wpOpsIn (FR ro) 0 P ops Q (List.range' i n) a C.w
theorem GReg.nil {ops:Array Oper}{i:Nat}:GReg P B ops i 0 τ μ nx N τ μ nx mx:=fun ro n0 H C M a Q hH _ hz ht hsd hQ=>hQ C M a ⟨hz,ht,GC.refl C M μ nx,hsd⟩
def GWants (τ:Nat→V) (ops:Array Oper) (o:Oper) (b:Bool):Prop:=(∀ C a N,GT C τ a N→Region.wanted o (yielded ops a.tmps)=b)∧wants ops τ o (!b)
omit [Gl] in
theorem put_defers {a:Act}{d:Option Tmp}{v:Value}:(a.put d v).defers=a.defers:=by cases d<;>rfl
theorem GReg.op {ops:Array Oper}{i n:Nat}{o:Oper}{v:V}{μ1:Mem}{nx1 mx1:Nat}(hop:ops[i]?=some o) (hw:GWants τ ops o true) (hd:dOk N o.dst=true) (h:GOp P B o τ μ nx v μ1 nx1 mx1) (k:GReg P B ops (i + 1) n (putF o.dst v τ) μ1 nx1 N τ' μ' nx' mx') (h1:nx≤nx1) (h2:nx1≤nx') (h3:mx1≤mx'):GReg P B ops i (n + 1) τ μ nx N τ' μ' nx' mx':=by
  intro ro n0 H C M a Q hH hH2 hz ht hsd hQ
  rw[List.range'_succ,wpOpsIn_cons]
  unfold wpOpIn
  simp only[hop]
  rw[if_pos (hw.1 C a N ht)]
  refine h ro H C M a _ Q (by omega) (by omega) hz (fun x _=>ht.operand hz.sr.gl x) ?_
  intro val C' M' q2 q3 q4
  exact k ro n0 H C' M' _ Q hH hH2 q3 ((ht.keep q4.kp.toKeep).put hd q2) (by rw[put_defers]; exact hsd.next hz.sr q4 h1) fun C'' M'' a'' hf=>hQ C'' M'' a'' ⟨hf.yr,hf.yt,q4.trans hf.yc h1 h2,hf.sd⟩
theorem GReg.skip {ops:Array Oper}{i n:Nat}{o:Oper}(hop:ops[i]?=some o) (hw:GWants τ ops o false) (hd:dOk N o.dst=true) (k:GReg P B ops (i + 1) n (putF o.dst (.tup .nl) τ) μ nx N τ' μ' nx' mx'):GReg P B ops i (n + 1) τ μ nx N τ' μ' nx' mx':=by
  intro ro n0 H C M a Q hH hH2 hz ht hsd hQ
  rw[List.range'_succ,wpOpsIn_cons]
  unfold wpOpIn
  simp only[hop]
  rw[if_neg (by rw[hw.1 C a N ht]; simp)]
  exact⟨fun _ _=>trivial,k ro n0 H C M _ Q hH hH2 hz (ht.put hd ⟨#[],rfl,rfl⟩) (by rw[put_defers]; exact hsd) hQ⟩
theorem GReg.runs {id:Nat}{ops:Array Oper}(h:GReg P B ops 0 ops.toList.length τ μ nx N τ' μ' nx' mx'):GRuns P B (.region id ops false) τ μ nx N .normal τ' μ' nx' mx':=by
  intro ro n0 H C M a hH hH2 hz ht hsd
  refine wpIn_region ?_
  rw[List.range_eq_range',←Array.length_toList]
  exact h ro n0 H C M a _ hH hH2 hz ht hsd fun C' M' a' hf=>⟨rfl,C',M',rfl,hf⟩
structure GTr (P:Program) (B:Nat) (ops:Array Oper) (N:Nat) (τ0:Nat→V) (μ0:Mem) (nx0:Nat) (τ:Nat→V) (μ:Mem) (nx:Nat) (tr:List TE):Prop where
  tv:∀ t,τ t=Ab.look wrT τ0 (fun _=>true) tr t
  nxe:nx=nextId nx0 tr
  le:nx0≤nx
  mb:MB μ nx
  mem:∀ M,Sub μ0 M→Valid P B Gl.G ops N τ0 M nx0 tr∧Sub μ (Ab.look wrM M (fun _=>true) tr) ∧
    ∀ id,(id < nx0∨nx≤id)→μ0 id=none→Ab.look wrM M (fun _=>true) tr id=M id∧μ id=none
theorem GTr.nil {ops:Array Oper}(hkb:MB μ nx):GTr P B ops N τ μ nx τ μ nx []:=⟨fun _=>rfl,rfl,Nat.le_refl _,hkb,fun M hM=>⟨trivial,hM,fun _ _ h=>⟨rfl,h⟩⟩⟩
section
variable {ops:Array Oper}{τ0:Nat→V}{μ0:Mem}{nx0:Nat}{tr:List TE}{o:Oper}
theorem GTr.lookT (hz:GTr P B ops N τ0 μ0 nx0 τ μ nx tr) {v:V}{te:TE}(h1:te.o=o) (h2:te.e.v=v) (t:Nat):putF o.dst v τ t=Ab.look wrT τ0 (fun _=>true) (te::tr) t:=by
  simp only[Ab.look,if_true,wrT,h1,h2]
  rw[←hz.tv t]
  cases ho:o.dst with
  | none=>rfl
  | some d =>
    by_cases hdt:t=d
    · subst hdt; simp [putF]
    · have hdt':¬ d=t:=fun e=>hdt e.symm
      simp [putF,hdt,hdt']
theorem GTr.op (hz:GTr P B ops N τ0 μ0 nx0 τ μ nx tr) {v:V}{μ1:Mem}{nx1:Nat}{up rd:List Nat}{e:Eff}(hop:ops[tr.length]?=some o) (hw:GWants τ ops o true) (hd:dOk N o.dst=true) (k2:GSt P B o τ μ μ1 nx nx1 v up rd e) :
    GTr P B ops N τ0 μ0 nx0 (putF o.dst v τ) μ1 nx1 (⟨o,e,nx,false⟩::tr):=by
  have hdst:∀ d,o.dst=some d→d < N:=by intro d h1; rw[h1] at hd; simpa [dOk] using hd
  have hne:=k2.nxt
  have hτ:τ=Ab.look wrT τ0 (fun _=>true) tr:=funext hz.tv
  refine⟨hz.lookT (te:=⟨o,e,nx,false⟩) rfl k2.val,?_,?_,k2.mb hz.mb,?_⟩
  · show nx1=nx + e.nw.length; exact hne
  · have:=hz.le; omega
  · intro M hM
    obtain⟨m1,m2,m3⟩:=hz.mem M hM
    have hS:(fun id=>Ab.look wrM M (fun _=>true) (⟨o,e,nx,false⟩::tr) id)=put (Ab.look wrM M (fun _=>true) tr) nx e:=by
      funext id
      simp only[Ab.look,if_true,look_wrM M]
      rfl
    refine⟨⟨m1,hop,hz.nxe,hdst,?_,?_⟩,?_,?_⟩
    · rw[←hτ]; exact hw.2
    · simp only[Bool.false_eq_true,if_false]
      rw[←hτ]; exact k2.sem _ m2
    · have:=k2.sub hz.mb _ m2
      intro id b hb
      have h6:=this id b hb
      rw[←hS] at h6
      exact h6
    · intro id hid hn
      obtain⟨q1,q2⟩:=m3 id (by have:=hz.le; omega) hn
      refine⟨?_,k2.kn id (by have:=hz.le; omega) q2⟩
      have h7:=congrFun hS id
      rw[show Ab.look wrM M (fun _=>true) (⟨o,e,nx,false⟩::tr) id=put (Ab.look wrM M (fun _=>true) tr) nx e id from h7]
      have ht:touch e nx id=none:=by
        unfold touch
        rw[if_neg (by have:=hz.le; omega)]
        cases hl:e.up.lookup id with
        | none=>rfl
        | some b =>
          exfalso
          obtain⟨x,hx,e1⟩:=lookup_mem hl
          obtain⟨b',hb'⟩:=k2.upk x hx
          rw[e1,q2] at hb'; cases hb'
      simp only[put,ht]
      exact q1
theorem GTr.skip (hz:GTr P B ops N τ0 μ0 nx0 τ μ nx tr) (hop:ops[tr.length]?=some o) (hw:GWants τ ops o false) (hd:dOk N o.dst=true) :
    GTr P B ops N τ0 μ0 nx0 (putF o.dst (.tup .nl) τ) μ nx (⟨o,skipE,nx,true⟩::tr):=by
  have hdst:∀ d,o.dst=some d→d < N:=by intro d h1; rw[h1] at hd; simpa [dOk] using hd
  have hτ:τ=Ab.look wrT τ0 (fun _=>true) tr:=funext hz.tv
  refine⟨hz.lookT (te:=⟨o,skipE,nx,true⟩) rfl rfl,?_,hz.le,hz.mb,?_⟩
  · show nx=nx + 0; rfl
  · intro M hM
    obtain⟨m1,m2,m3⟩:=hz.mem M hM
    have hS:∀ id,Ab.look wrM M (fun _=>true) (⟨o,skipE,nx,true⟩::tr) id=Ab.look wrM M (fun _=>true) tr id:=by
      intro id
      simp only[Ab.look,if_true,look_wrM M]
      have h1:¬ (nx≤id∧id < nx + 0):=by omega
      simp only[skipE,touch,List.length_nil,h1,if_false,List.lookup_nil]
    refine⟨⟨m1,hop,hz.nxe,hdst,by rw[←hτ]; exact hw.2,by simp [skipE]⟩,fun id b hb=>by rw[hS]; exact m2 id b hb,fun id hid hn=>by rw[hS]; exact m3 id hid hn⟩
theorem Valid.wide {P:Program}{B:Nat}{G:Nat→V}{ops:Array Oper}{N N':Nat}(hle:N≤N') {tm0:Nat→V}{m0:Mem}{n0:Nat}:∀ {tr:List TE},Valid P B G ops N tm0 m0 n0 tr→Valid P B G ops N' tm0 m0 n0 tr
  | [],_=>trivial
  | te::r,h=>⟨Valid.wide hle h.1,h.2.1,h.2.2.1,fun d hd=>Nat.lt_of_lt_of_le (h.2.2.2.1 d hd) hle,h.2.2.2.2⟩
theorem GTr.runs {id:Nat}(hmx:P.follows .mixedOrders=true) (hz:GTr P B ops N τ μ nx τ' μ' nx' tr) (hlen:tr.length=ops.size) (hTa:Apart wrT (useT ops) edge tr) (hMa:Apart wrM useM (edT ops) tr) (hback:∀ l te r,tr=l++te::r→∀ k,edge te k=true→k < r.length):GRuns P B (.region id ops true) τ μ nx N .normal τ' μ' nx' mx:=by
  intro ro n0 H C M a hH _ hzr ht hsi
  obtain⟨hv,hsub,hfr⟩:=hz.mem M hzr.sub
  replace hv:=Valid.wide ht.size hv
  refine wpIn_region_any hmx ?_
  obtain⟨hsd,hkd⟩:=hzr.sr.drew
  have hl0:(fun i=>(Array.replicate ops.size false).getD i false)=fun _=>false:=by
    funext i
    simp only[Array.getD_eq_getD_getElem?,Array.getElem?_replicate]
    split<;>rfl
  have hno:∀ {K X:Type}(wr:TE→K→Option X) (base:K→X),Ab.look wr base (fun _=>false) tr=base:=fun wr base=>funext fun k=>look_none k tr (fun i _=>rfl)
  have hps:PS B { C with w:=C.w.drew } a.tmps.size τ M tr (fun _=>false) a { C with w:=C.w.drew }:=by
    refine⟨Kp.refl B _,by rw[hno]; exact hsd,fun t=>by rw[hno]; exact R.keep hkd.toKeep _ _ (ht.tv t),fun id h=>.inl h,rfl⟩
  have hnx:=hz.nxe
  have hQ:∀(a':Act) (C':Ctx),a'.defers=a.defers→PS B { C with w:=C.w.drew } a.tmps.size τ M tr (fun _=>true) a' C'→GFin ro n0 B H C M μ nx N .normal τ' μ' nx' .normal a' C'.w:=by
    intro a' C' hd hps'
    have hal:∀ id,C'.al id→C.al id∨(nx≤id∧id < nx'):=fun id hid=>by
      rcases hps'.al id hid with h1 | ⟨l,te,r,e,_,h2,h3⟩
      · exact .inl h1
      · have:=(nextId_le hv).2 te (by rw[e]; simp)
        exact .inr ⟨by omega,by omega⟩
    have hgc:GC B H C M μ nx C' (Ab.look wrM M (fun _=>true) tr) μ' nx':=⟨hkd.trans hps'.kp,hal,fun id hid hn=>hfr id (by omega) hn⟩
    refine⟨rfl,C',_,rfl,⟨hps'.sr,hsub,fun id h1 h2 h3=>?_⟩,⟨fun t=>?_,by rw[hps'.size]; exact ht.size⟩,hgc,by rw[hd]; exact hsi.next hzr.sr hgc hz.le⟩
    · rcases hal id h3 with h4 | h4
      · exact hzr.al id (by have:=hz.le; omega) h2 h4
      · omega
    · have:=hps'.tm t
      rw[←hz.tv t] at this; exact this
  refine any_regionT (ro:=ro) (C0:={ C with w:=C.w.drew }) (G:=Gl.G) hv hlen hTa hMa hback (fun id h1 h2=>hzr.al id h1 (by omega)) (fun g C' hk'=>R.keep hk' _ _ (hsd.gl g)) a.defers hQ ops.size (Array.replicate ops.size false) a _ (by simp) ?_ ?_ rfl (by rw[hl0]; exact hps)
  · have:=List.countP_le_length (p:=fun i=>!(Array.replicate ops.size false).getD i false) (l:=List.range ops.size)
    simpa using this
  · intro l te r e hs'
    rw[hl0] at hs'; cases hs'
theorem GTr.runsL {id:Nat}{o:Oper}{v:V}{μ2:Mem}{nx2 mx2:Nat}(hmx:P.follows .mixedOrders=true) (hz:GTr P B ops N τ μ nx τ' μ' nx' tr) (hlen:tr.length + 1=ops.size) (hol:ops[tr.length]?=some o) (hlast:∀ k,k < tr.length→reach ops 6 o k=true) (hbl:∀ k,edgeO o k=true→k < tr.length) (hw:GWants τ' ops o true) (hd:dOk N o.dst=true) (hop:GOp P B o τ' μ' nx' v μ2 nx2 mx2) (hn2:nx'≤nx2) (hTa:Apart wrT (useT ops) edge tr) (hMa:Apart wrM useM (edT ops) tr) (hback:∀ l te r,tr=l++te::r→∀ k,edge te k=true→k < r.length):GRuns P B (.region id ops true) τ μ nx N .normal (putF o.dst v τ') μ2 nx2 mx2:=by
  intro ro n0 H C M a hH2 hx2 hzr ht hsi
  have hH:nx'≤H:=Nat.le_trans hn2 hH2
  obtain⟨hv,hsub,hfr⟩:=hz.mem M hzr.sub
  replace hv:=Valid.wide ht.size hv
  refine wpIn_region_any hmx ?_
  obtain⟨hsd,hkd⟩:=hzr.sr.drew
  have hl0:(fun i=>(Array.replicate ops.size false).getD i false)=fun _=>false:=by
    funext i
    simp only[Array.getD_eq_getD_getElem?,Array.getElem?_replicate]
    split<;>rfl
  have hno:∀ {K X:Type}(wr:TE→K→Option X) (base:K→X),Ab.look wr base (fun _=>false) tr=base:=fun wr base=>funext fun k=>look_none k tr (fun i _=>rfl)
  have hps:PS B { C with w:=C.w.drew } a.tmps.size τ M tr (fun _=>false) a { C with w:=C.w.drew }:=by
    refine⟨Kp.refl B _,by rw[hno]; exact hsd,fun t=>by rw[hno]; exact R.keep hkd.toKeep _ _ (ht.tv t),fun id h=>.inl h,rfl⟩
  have hnx:=hz.nxe
  have hQ:∀(a':Act) (C':Ctx),a'.defers=a.defers→PS B { C with w:=C.w.drew } a.tmps.size τ M tr (fun _=>true) a' C'→∀ R:Act→World→Prop,(∀ a w,GFin ro n0 B H C M μ nx N .normal (putF o.dst v τ') μ2 nx2 .normal a w→R a w)→wpOpIn (FR ro) 0 P ops (GFin ro n0 B H C M μ nx N .normal (putF o.dst v τ') μ2 nx2) tr.length R a' C'.w:=by
    intro a' C' hd' hps' R hR
    have hal:∀ id,C'.al id→C.al id∨(nx≤id∧id < nx'):=fun id hid=>by
      rcases hps'.al id hid with h1 | ⟨l,te,r,e,_,h2,h3⟩
      · exact .inl h1
      · have:=(nextId_le hv).2 te (by rw[e]; simp)
        exact .inr ⟨by omega,by omega⟩
    have hgc:GC B H C M μ nx C' (Ab.look wrM M (fun _=>true) tr) μ' nx':=⟨hkd.trans hps'.kp,hal,fun id hid hn=>hfr id (by omega) hn⟩
    have hgr:GR B H C' (Ab.look wrM M (fun _=>true) tr) μ' nx':=⟨hps'.sr,hsub,fun id h1 h2 h3=>by
      rcases hal id h3 with h4 | h4
      · exact hzr.al id (by have:=hz.le; omega) h2 h4
      · omega⟩
    have hgt:GT C' τ' a' N:=⟨fun t=>by
      have:=hps'.tm t
      rw[←hz.tv t] at this; exact this,by rw[hps'.size]; exact ht.size⟩
    have hsd2:Side ro n0 H C' (Ab.look wrM M (fun _=>true) tr) μ' nx' a'.defers:=by rw[hd']; exact hsi.next hzr.sr hgc hz.le
    unfold wpOpIn
    simp only[hol]
    rw[if_pos (hw.1 C' a' N hgt)]
    refine hop ro H C' _ a' _ _ hH2 hx2 hgr (fun x _=>hgt.operand hgr.sr.gl x) ?_
    intro val C2 M2 q2 q3 q4
    exact hR _ _ ⟨rfl,C2,M2,rfl,q3,(hgt.keep q4.kp.toKeep).put hd q2,hgc.trans q4 hz.le hn2,by rw[put_defers]; exact hsd2.next hgr.sr q4 hn2⟩
  refine any_regionL (ro:=ro) (C0:={ C with w:=C.w.drew }) (G:=Gl.G) hv hlen hol hlast hbl hTa hMa hback (fun id h1 h2=>hzr.al id h1 (by omega)) (fun g C' hk'=>R.keep hk' _ _ (hsd.gl g)) a.defers hQ ops.size (Array.replicate ops.size false) a _ (by simp) (by rw[show (Array.replicate ops.size false).getD tr.length false=false from congrFun hl0 tr.length]) ?_ ?_ rfl (by rw[hl0]; exact hps)
  · have:=List.countP_le_length (p:=fun i=>!(Array.replicate ops.size false).getD i false) (l:=List.range ops.size)
    simpa using this
  · intro l te r e hs'
    rw[hl0] at hs'; cases hs'
theorem GTr.runsLL {id:Nat}{o o2:Oper}{v v2:V}{μ2 μ3:Mem}{nx2 mx2 nx3 mx3:Nat}(hmx:P.follows .mixedOrders=true) (hz:GTr P B ops N τ μ nx τ' μ' nx' tr) (hlen:tr.length + 2=ops.size) (ho2:ops[tr.length + 1]?=some o2) (h2e:edgeO o2 tr.length=true) (h2b:∀ k,edgeO o2 k=true→k < tr.length + 1) (hw2:GWants (putF o.dst v τ') ops o2 true) (hd2:dOk N o2.dst=true) (hop2:GOp P B o2 (putF o.dst v τ') μ2 nx2 v2 μ3 nx3 mx3) (hn3:nx2≤nx3) (hx3:mx2≤mx3) (hol:ops[tr.length]?=some o) (hlast:∀ k,k < tr.length→reach ops 6 o k=true) (hbl:∀ k,edgeO o k=true→k < tr.length) (hw:GWants τ' ops o true) (hd:dOk N o.dst=true) (hop:GOp P B o τ' μ' nx' v μ2 nx2 mx2) (hn2:nx'≤nx2) (hTa:Apart wrT (useT ops) edge tr) (hMa:Apart wrM useM (edT ops) tr) (hback:∀ l te r,tr=l++te::r→∀ k,edge te k=true→k < r.length):GRuns P B (.region id ops true) τ μ nx N .normal (putF o2.dst v2 (putF o.dst v τ')) μ3 nx3 mx3:=by
  intro ro n0 H C M a hH3 hxH hzr ht hsi
  have hH2:nx2≤H:=Nat.le_trans hn3 hH3
  have hx2:mx2≤H:=Nat.le_trans hx3 hxH
  have hH:nx'≤H:=Nat.le_trans hn2 hH2
  obtain⟨hv,hsub,hfr⟩:=hz.mem M hzr.sub
  replace hv:=Valid.wide ht.size hv
  refine wpIn_region_any hmx ?_
  obtain⟨hsd,hkd⟩:=hzr.sr.drew
  have hl0:(fun i=>(Array.replicate ops.size false).getD i false)=fun _=>false:=by
    funext i
    simp only[Array.getD_eq_getD_getElem?,Array.getElem?_replicate]
    split<;>rfl
  have hno:∀ {K X:Type}(wr:TE→K→Option X) (base:K→X),Ab.look wr base (fun _=>false) tr=base:=fun wr base=>funext fun k=>look_none k tr (fun i _=>rfl)
  have hps:PS B { C with w:=C.w.drew } a.tmps.size τ M tr (fun _=>false) a { C with w:=C.w.drew }:=by
    refine⟨Kp.refl B _,by rw[hno]; exact hsd,fun t=>by rw[hno]; exact R.keep hkd.toKeep _ _ (ht.tv t),fun id h=>.inl h,rfl⟩
  have hnx:=hz.nxe
  have hQ:∀(a':Act) (C':Ctx),a'.defers=a.defers→PS B { C with w:=C.w.drew } a.tmps.size τ M tr (fun _=>true) a' C'→∀ R:Act→World→Prop,(∀ a w,(∀ R2:Act→World→Prop,(∀ a w,GFin ro n0 B H C M μ nx N .normal (putF o2.dst v2 (putF o.dst v τ')) μ3 nx3 .normal a w→R2 a w)→wpOpIn (FR ro) 0 P ops (GFin ro n0 B H C M μ nx N .normal (putF o2.dst v2 (putF o.dst v τ')) μ3 nx3) (tr.length + 1) R2 a w)→R a w)→wpOpIn (FR ro) 0 P ops (GFin ro n0 B H C M μ nx N .normal (putF o2.dst v2 (putF o.dst v τ')) μ3 nx3) tr.length R a' C'.w:=by
    intro a' C' hd' hps' R hR
    have hal:∀ id,C'.al id→C.al id∨(nx≤id∧id < nx'):=fun id hid=>by
      rcases hps'.al id hid with h1 | ⟨l,te,r,e,_,h2,h3⟩
      · exact .inl h1
      · have:=(nextId_le hv).2 te (by rw[e]; simp)
        exact .inr ⟨by omega,by omega⟩
    have hgc:GC B H C M μ nx C' (Ab.look wrM M (fun _=>true) tr) μ' nx':=⟨hkd.trans hps'.kp,hal,fun id hid hn=>hfr id (by omega) hn⟩
    have hgr:GR B H C' (Ab.look wrM M (fun _=>true) tr) μ' nx':=⟨hps'.sr,hsub,fun id h1 h2 h3=>by
      rcases hal id h3 with h4 | h4
      · exact hzr.al id (by have:=hz.le; omega) h2 h4
      · omega⟩
    have hgt:GT C' τ' a' N:=⟨fun t=>by
      have:=hps'.tm t
      rw[←hz.tv t] at this; exact this,by rw[hps'.size]; exact ht.size⟩
    have hsd2:Side ro n0 H C' (Ab.look wrM M (fun _=>true) tr) μ' nx' a'.defers:=by rw[hd']; exact hsi.next hzr.sr hgc hz.le
    unfold wpOpIn
    simp only[hol]
    rw[if_pos (hw.1 C' a' N hgt)]
    refine hop ro H C' _ a' _ _ hH2 hx2 hgr (fun x _=>hgt.operand hgr.sr.gl x) ?_
    intro val C2 M2 q2 q3 q4
    have hgt2:=(hgt.keep q4.kp.toKeep).put hd q2
    refine hR _ _ fun R2 hR2=>?_
    unfold wpOpIn
    simp only[ho2]
    rw[if_pos (hw2.1 C2 _ N hgt2)]
    refine hop2 ro H C2 _ _ _ _ hH3 hxH q3 (fun x _=>hgt2.operand q3.sr.gl x) ?_
    intro val2 C3 M3 r2 r3 r4
    exact hR2 _ _ ⟨rfl,C3,M3,rfl,r3,(hgt2.keep r4.kp.toKeep).put hd2 r2,(hgc.trans q4 hz.le hn2).trans r4 (Nat.le_trans hz.le hn2) hn3,by rw[put_defers,put_defers]; exact (hsd2.next hgr.sr q4 hn2).next q3.sr r4 hn3⟩
  refine any_regionLL (ro:=ro) (C0:={ C with w:=C.w.drew }) (G:=Gl.G) hv hlen ho2 h2e h2b hol hlast hbl hTa hMa hback (fun id h1 h2=>hzr.al id h1 (by omega)) (fun g C' hk'=>R.keep hk' _ _ (hsd.gl g)) a.defers hQ ops.size (Array.replicate ops.size false) a _ (by simp) (by rw[show (Array.replicate ops.size false).getD tr.length false=false from congrFun hl0 tr.length]) (by rw[show (Array.replicate ops.size false).getD (tr.length + 1) false=false from congrFun hl0 (tr.length + 1)]) ?_ ?_ rfl (by rw[hl0]; exact hps)
  · have:=List.countP_le_length (p:=fun i=>!(Array.replicate ops.size false).getD i false) (l:=List.range ops.size)
    simpa using this
  · intro l te r e hs'
    rw[hl0] at hs'; cases hs'
end
end
end
end Go.K
namespace Go.K
open Go.Ab Go.RowKit Go.Y
noncomputable section
class KGl where
  g:Nat→KV
  cl:Bool:=false
instance instGl [KGl]:Gl:={ G:=fun i=>(KGl.g i).v,cl:=KGl.cl }
variable [KGl]
def chk (c:Bool) (n:Nat) (p:Prop):Prop:=@Bool.rec (fun _=>Prop) (BadN n) p c
omit [KGl] in
theorem chk_inv {c:Bool}{n:Nat}{p:Prop}(h:chk c n p):c=true∧p:=by
  cases c with
  | false=>exact (show BadN n from h).elim
  | true=>exact⟨rfl,h⟩
def os {α:Type}(n:Nat) (f:α→Prop) (o:Option α):Prop:=@Option.rec α (fun _=>Prop) (BadN n) f o
omit [KGl] in
theorem os_inv {α:Type}{n:Nat}{f:α→Prop}{o:Option α}(h:os n f o):∃ x,o=some x∧f x:=by
  cases o with
  | none=>exact (show BadN n from h).elim
  | some x=>exact⟨x,rfl,h⟩
structure KBlk where
  k:Kind
  sh:Shape
  v:KV
def KBlk.b (x:KBlk):Blk:=⟨x.k,x.sh,x.v.v⟩
abbrev KZ:=Tr (Option KBlk)
def kb (zm:KZ) (id:Nat):Option KBlk:=get none (enc id) zm
def am (zm:KZ):Mem:=fun id=>(kb zm id).map KBlk.b
omit [KGl] in
theorem kb_set {zm:KZ}{x:Option KBlk}{i id:Nat}:kb (set x (enc i) zm) id=if id=i then x else kb zm id:=get_set_n _ _ _ _ _
omit [KGl] in
theorem am_set {zm:KZ}{b:KBlk}{id:Nat}:am (set (some b) (enc id) zm)=upd (am zm) id (some b.b):=by
  funext i
  unfold am upd
  rw[kb_set]
  split<;>rfl
omit [KGl] in
theorem am_e:am .e=fun _=>none:=by funext i; unfold am kb; rw[get_e]; rfl
omit [KGl] in
theorem am_some {zm:KZ}{id:Nat}{x:KBlk}(h:kb zm id=some x):am zm id=some x.b:=by unfold am; rw[h]; rfl
abbrev KT:=KV→KZ→Nat→List Nat→List Nat→Prop
def oB (zm:KZ) (id:Nat) (f:Kind→Shape→KV→Prop):Prop:=os 1 (fun x=>@KBlk.rec (fun _=>Prop) (fun k sh v=>f k sh v) x) (kb zm id)
omit [KGl] in
theorem oB_inv {zm:KZ}{id:Nat}{f:Kind→Shape→KV→Prop}(h:oB zm id f):∃ k sh v,kb zm id=some ⟨k,sh,v⟩∧f k sh v:=by
  obtain⟨⟨k,sh,v⟩,h1,h2⟩:=os_inv h
  exact⟨k,sh,v,h1,h2⟩
def isAl (k:Kind):Bool:=@Kind.rec (fun _=>Bool) (fun _=>true) (fun _=>true) false (fun _ _ _ _=>false) false k
omit [KGl] in
theorem isAl_eq (k:Kind) (sh:Shape) (v:V):(Blk.mk k sh v).alive=isAl k:=by cases k<;>rfl
def nwB (k:Kind) (sh:Shape) (v:KV) (zm:KZ) (nx:Nat) (K:KZ→Nat→Prop):Prop:=fV v fun v=>setTK (some ⟨k,sh,v⟩) (enc nx) zm fun zm=>forceN (Nat.succ nx) fun nx=>K zm nx
theorem nwB_eq (k:Kind) (sh:Shape) (v:KV) (zm:KZ) (nx:Nat) (K:KZ→Nat→Prop):nwB k sh v zm nx K=K (set (some ⟨k,sh,v⟩) (enc nx) zm) (nx + 1):=by
  unfold nwB; rw[fV_eq,setTK_eq,forceN_eq]
def upB (id:Nat) (k:Kind) (sh:Shape) (v:KV) (zm:KZ) (K:KZ→Prop):Prop:=fV v fun v=>setTK (some ⟨k,sh,v⟩) (enc id) zm K
theorem upB_eq (id:Nat) (k:Kind) (sh:Shape) (v:KV) (zm:KZ) (K:KZ→Prop):upB id k sh v zm K=K (set (some ⟨k,sh,v⟩) (enc id) zm):=by
  unfold upB; rw[fV_eq,setTK_eq]
def packL:List UInt8→Nat
  | []=>0
  | b::l=>b.toNat + 256 * packL l
omit [KGl] in
theorem packL_get:∀(l:List UInt8) (i:Nat),pkr .u8 (packL l) i=(l.getD i 0).toNat
  | [],i=>by
    show bts 0 (8 * i) 8=0
    apply Nat.eq_of_testBit_eq; intro b
    rw[bts_bit]; simp
  | b::l,0=>by
    show (b.toNat + 256 * packL l) >>> (8 * 0) % 2 ^ 8=b.toNat
    have:=b.toNat_lt
    rw[Nat.mul_zero,Nat.shiftRight_zero]; omega
  | b::l,i + 1=>by
    have h:=packL_get l i
    rw[show (b::l).getD (i + 1) 0=l.getD i 0 from rfl,←h]
    show (b.toNat + 256 * packL l) >>> (8 * (i + 1)) % 2 ^ 8=packL l >>> (8 * i) % 2 ^ 8
    have hb:=b.toNat_lt
    rw[show 8 * (i + 1)=8 + 8 * i by omega,Nat.shiftRight_add]
    congr 2
    rw[Nat.shiftRight_eq_div_pow]; omega
omit [KGl] in
theorem bytesOf_pack (s:ByteArray):bytesOf s.size (packL s.data.toList)=s:=by
  obtain⟨⟨l⟩⟩:=s
  show ByteArray.mk ⟨_⟩=_
  congr 2
  apply List.ext_getElem?
  intro i
  show ((List.range l.length).map fun i=>UInt8.ofNat (pkr .u8 (packL l) i))[i]?=l[i]?
  rw[List.getElem?_map]
  by_cases hi:i < l.length
  · rw[List.getElem?_range hi,Option.map_some,packL_get,List.getElem?_eq_getElem hi]
    congr 1
    rw[List.getD_eq_getElem?_getD,List.getElem?_eq_getElem hi,Option.getD_some]
    exact UInt8.ofNat_toNat
  · rw[List.getElem?_eq_none (by simpa using hi),List.getElem?_eq_none (by simpa using hi)]; rfl
def kofVal (v:Value):KV:=match v with
  | .int k n=>.int k n
  | .bool b=>.bool b
  | .string s=>.str s.size (packL s.data.toList)
  | .pointer none=>.nilp
  | .slice none 0 0=>.nils
  | .nilFunc=>.nilf
  | .nilIface=>.fn 2147483648 .nl
  | _=>.unk
omit [KGl] in
theorem kofVal_v (v:Value):(kofVal v).v=V.ofVal v:=by
  unfold kofVal V.ofVal
  split
  · rfl
  · rfl
  · rw[v_str,bytesOf_pack]
  · rfl
  · rfl
  · rfl
  · rfl
  · split<;>first
      | rfl
      | (exfalso; simp_all; done)
def kev (τ:Nat→KV) (x:Operand):KV:=@Operand.rec (fun _=>(Nat→KV)→KV) (fun t τ=>τ t) (fun v _=>kofVal v) (fun g _=>KGl.g g) (fun f _=>@Bool.rec (fun _=>KV) .unk (.fn f .nl) (Nat.blt f 1073741824)) x τ
def tv' (τ:Nat→KV):Nat→V:=fun t=>(τ t).v
theorem kev_v (τ:Nat→KV) (x:Operand):(kev τ x).v=opv Gl.G (tv' τ) x:=by
  cases x with
  | tmp t=>rfl
  | const v=>exact kofVal_v v
  | global g=>rfl
  | func f =>
    show (@Bool.rec (fun _=>KV) .unk (.fn f .nl) (Nat.blt f 1073741824)).v=@Bool.rec (fun _=>V) .unk (.fn f .nl) (Nat.blt f 1073741824)
    cases Nat.blt f 1073741824<;>rfl
def Out (P:Program) (B:Nat) (o:Oper) (τ:Nat→KV) (lo:Nat) (zm:KZ) (nx:Nat) (K:KT):Prop :=
  ∃(v:KV) (zm':KZ) (nx':Nat) (up rd:List Nat) (e:Eff),K v zm' nx' up rd∧e.v=v.v∧nx'=nx + e.nw.length∧e.up.map (·.1)=up∧e.rd=rd∧am zm'=put (am zm) nx e ∧
    OpSem P B o (opv Gl.G (tv' τ)) (am zm) nx e∧UpIn (am zm) e∧∀ id∈up,lo≤id
section
variable {P:Program}{B:Nat}{o:Oper}{τ:Nat→KV}{lo:Nat}{zm:KZ}{nx:Nat}{K:KT}
theorem Out.pure {v:KV}{e:Eff}{rd:List Nat}(hK:K v zm nx [] rd) (h:OpSem P B o (opv Gl.G (tv' τ)) (am zm) nx e∧UpIn (am zm) e) (he:EImp e ⟨v.v,[],[],rd⟩):Out P B o τ lo zm nx K :=
  ⟨v,zm,nx,[],rd,⟨v.v,[],[],rd⟩,hK,rfl,rfl,rfl,rfl,by rw[put_pure],opsem_imp h.1 he,upin_imp h.2 he,by intro id hid; cases hid⟩
theorem Out.new {v:KV}{e:Eff}{rd:List Nat}{k:Kind}{sh:Shape}{x:KV}(hK:nwB k sh x zm nx fun zm nx=>K v zm nx [] rd) (h:OpSem P B o (opv Gl.G (tv' τ)) (am zm) nx e∧UpIn (am zm) e) (he:EImp e ⟨v.v,[],[⟨k,sh,x.v⟩],rd⟩):Out P B o τ lo zm nx K:=by
  rw[nwB_eq] at hK
  exact⟨v,_,_,[],rd,⟨v.v,[],[⟨k,sh,x.v⟩],rd⟩,hK,rfl,rfl,rfl,rfl,by rw[put_new,am_set]; rfl,opsem_imp h.1 he,upin_imp h.2 he,by intro id hid; cases hid⟩
theorem Out.up {v:KV}{e:Eff}{rd:List Nat}{id:Nat}{k:Kind}{sh:Shape}{x:KV}(hK:upB id k sh x zm fun zm=>K v zm nx [id] rd) (hlo:lo≤id) (h:OpSem P B o (opv Gl.G (tv' τ)) (am zm) nx e∧UpIn (am zm) e) (he:EImp e ⟨v.v,[(id,⟨k,sh,x.v⟩)],[],rd⟩):Out P B o τ lo zm nx K:=by
  rw[upB_eq] at hK
  exact⟨v,_,_,[id],rd,⟨v.v,[(id,⟨k,sh,x.v⟩)],[],rd⟩,hK,rfl,rfl,rfl,rfl,by rw[put_up,am_set]; rfl,opsem_imp h.1 he,upin_imp h.2 he,by intro i hi; simp only[List.mem_singleton] at hi; subst hi; exact hlo⟩
theorem Out.upnew {v:KV}{e:Eff}{rd:List Nat}{id:Nat}{k:Kind}{sh:Shape}{x:KV}{k2:Kind}{sh2:Shape}{x2:KV}(hid:id < nx) (hK:upB id k2 sh2 x2 zm fun zm=>nwB k sh x zm nx fun zm nx=>K v zm nx [id] rd) (hlo:lo≤id) (h:OpSem P B o (opv Gl.G (tv' τ)) (am zm) nx e∧UpIn (am zm) e) (he:EImp e ⟨v.v,[(id,⟨k2,sh2,x2.v⟩)],[⟨k,sh,x.v⟩],rd⟩):Out P B o τ lo zm nx K:=by
  rw[upB_eq,nwB_eq] at hK
  refine⟨v,_,_,[id],rd,⟨v.v,[(id,⟨k2,sh2,x2.v⟩)],[⟨k,sh,x.v⟩],rd⟩,hK,rfl,rfl,rfl,rfl,?_,opsem_imp h.1 he,upin_imp h.2 he,by intro i hi; simp only[List.mem_singleton] at hi; subst hi; exact hlo⟩
  rw[am_set,am_set]
  funext i
  unfold put touch upd
  simp only[List.length_cons,List.length_nil]
  by_cases h1:i=nx
  · subst h1; simp; rfl
  · rw[if_neg h1,if_neg (show ¬ (nx≤i∧i < nx + (0 + 1)) by omega)]
    by_cases h2:i=id
    · subst h2; simp [List.lookup]; rfl
    · have:(i==id)=false:=by simpa using h2
      simp [List.lookup,this,h2]
end
def isArr (s:Shape) (n:Nat) (f:Shape→Bool):Bool:=@Shape.rec (fun _=>Bool) false false (fun _ _ _ _=>false) (fun m e _=>@Bool.rec (fun _=>Bool) false (f e) (Nat.beq n m)) s
def isScB (s:Shape):Bool:=@Shape.rec (fun _=>Bool) true false (fun _ _ _ _=>false) (fun _ _ _=>false) s
def isNlB (s:Shape):Bool:=@Shape.rec (fun _=>Bool) false true (fun _ _ _ _=>false) (fun _ _ _=>false) s
def isCnB (s:Shape) (f:Shape→Shape→Bool):Bool:=@Shape.rec (fun _=>Bool) false false (fun a b _ _=>f a b) (fun _ _ _=>false) s
def nd (a b:Bool):Bool:=@Bool.rec (fun _=>Bool) false b a
omit [KGl] in
theorem nd_iff {a b:Bool}:nd a b=true↔a=true∧b=true:=by cases a<;>simp [nd]
def isUnkB (v:KV):Bool:=match v with
  | .unk=>true
  | _=>false
def fitE (v:KV) (b:Bool) (e:Shape):Bool:=@Bool.rec (fun _=>Bool) (nd (isUnkB v) (isScB e)) true b
def kfit (v:KV):Bool→Shape→Bool:=@KV.rec (fun _=>Bool→Shape→Bool) (fun x0 x1 m sh=>nd m (isScB sh)) (fun x0 m sh=>nd m (isScB sh)) (fun x0 x1 m sh=>nd m (isScB sh)) (fun  m sh=>nd m (isNlB sh)) (fun x0 x1 r0 r1 m sh=>nd m (isCnB sh fun a b=>nd (r0 true a) (r1 true b))) (fun x0 x1 x2 m sh=>nd m (isArr sh x1 isScB)) (fun x0 x1 x2 r0 r1 m sh=>nd m (isArr sh x0 fun e=>nd (fitE x1 (r0 true e) e) (r1 false e))) (fun  m sh=>@Bool.rec (fun _=>Bool) true false m) (fun x0 x1 x2 x3 r0 r1 r2 r3 m sh=>@Bool.rec (fun _=>Bool) (nd (r0 false sh) (nd (r1 false sh) (nd (r2 false sh) (r3 false sh)))) false m) (fun x0 x1 x2 x3 x4 r0 r1 r2 r3 r4 m sh=>@Bool.rec (fun _=>Bool) (nd (r0 true sh) (nd (r1 false sh) (nd (r2 false sh) (nd (r3 false sh) (r4 false sh))))) false m) (fun x0 x1 x2 m sh=>nd m (isScB sh)) (fun x0 x1 x2 m sh=>nd m (isScB sh)) (fun x0 x1 x2 x3 x4 x5 m sh=>nd m (isScB sh)) (fun x0 x1 x2 r0 m sh=>nd m (isScB sh)) (fun  m sh=>nd m (isScB sh)) (fun  m sh=>nd m (isScB sh)) (fun  m sh=>nd m (isScB sh)) (fun x0 x1 x2 x3 x4 x5 r0 m sh=>nd m (isScB sh)) (fun x0 x1 r0 m sh=>nd m (isScB sh)) (fun x0 r0 m sh=>false) (fun  m sh=>false) (fun _=>(fun  m sh=>nd m (isScB sh))) (fun x0 x1 r m sh=>nd m (isArr sh x0 fun e=>allLt x0 fun i=>r i true e)) (fun x0 r m sh=>nd m (isScB sh)) v
omit [KGl] in
theorem isScB_s {s:Shape}(h:isScB s=true):s=.sc:=by cases s<;>first | rfl | cases h
omit [KGl] in
theorem isArr_s {s:Shape}{n:Nat}{f:Shape→Bool}(h:isArr s n f=true):∃ e,s=.arr n e∧f e=true:=by
  cases s with
  | arr m e =>
    have h1:@Bool.rec (fun _=>Bool) false (f e) (Nat.beq n m)=true:=h
    cases hb:Nat.beq n m with
    | false=>rw[hb] at h1; cases h1
    | true=>rw[hb] at h1; rw[Nat.eq_of_beq_eq_true hb]; exact⟨e,rfl,h1⟩
  | _=>cases h
def Fit (v:KV) (s:Shape):Prop:=v.v.fits s=true∧v.v.known=true
omit [KGl] in
theorem kfit_s (v:KV):∀(s:Shape),(kfit v true s=true→Fit v s)∧(kfit v false s=true→∀(p:Pth) (z:V),z.fits s=true→(v.atv p z).fits s=true):=by
  induction v with
  | cons a b ih1 ih2 =>
    intro s
    refine⟨fun h=>?_,fun h=>(by cases h)⟩
    have h0:isCnB s (fun x y=>nd (kfit a true x) (kfit b true y))=true:=h
    cases s with
    | cons x y =>
      obtain⟨h1,h2⟩:=nd_iff.1 (show nd (kfit a true x) (kfit b true y)=true from h0)
      have q1:=((ih1 x).1 h1).1
      have q2:=((ih2 y).1 h2).1
      refine⟨?_,rfl⟩
      show (a.v.fits x&&b.v.fits y)=true
      rw[q1,q2]; rfl
    | _=>cases h0
  | nl =>
    intro s
    refine⟨fun h=>?_,fun h=>(by cases h)⟩
    have h0:isNlB s=true:=h
    cases s<;>first | exact⟨rfl,rfl⟩ | cases h0
  | pk k n x =>
    intro s
    refine⟨fun h=>?_,fun h=>(by cases h)⟩
    obtain⟨e,rfl,he⟩:=isArr_s (show isArr s n isScB=true from h)
    obtain rfl:=isScB_s he
    refine⟨?_,rfl⟩
    show (n==n&&(List.range n).all fun i=>(V.int k (pkg k x i)).fits .sc)=true
    simp [V.fits]
  | ar n d t ih1 ih2 =>
    intro s
    refine⟨fun h=>?_,fun h=>(by cases h)⟩
    obtain⟨e,rfl,he⟩:=isArr_s (show isArr s n (fun e=>nd (fitE d (kfit d true e) e) (kfit t false e))=true from h)
    obtain⟨h1,h2⟩:=nd_iff.1 he
    refine⟨?_,rfl⟩
    show (n==n&&(List.range n).all fun i=>(t.atv (enc i) d.v).fits e)=true
    simp only[beq_self_eq_true,Bool.true_and,List.all_eq_true]
    intro i _
    refine (ih2 e).2 h2 _ _ ?_
    cases hk:kfit d true e with
    | true=>exact ((ih1 e).1 hk).1
    | false =>
      rw[hk] at h1
      obtain⟨h3,h4⟩:=nd_iff.1 (show nd (isUnkB d) (isScB e)=true from h1)
      obtain rfl:=isScB_s h4
      cases d<;>first | rfl | cases h3
  | fa n f ih =>
    intro s
    refine⟨fun h=>?_,fun h=>(by cases h)⟩
    obtain⟨e,rfl,he⟩:=isArr_s (show isArr s n (fun e=>allLt n fun i=>kfit (f i) true e)=true from h)
    refine⟨?_,rfl⟩
    show (n==n&&(List.range n).all fun i=>(f i).v.fits e)=true
    simp only[beq_self_eq_true,Bool.true_and,List.all_eq_true]
    intro i hi
    exact ((ih i e).1 (allLt_iff.1 he i (List.mem_range.1 hi))).1
  | clo x ih =>
    intro s
    refine⟨fun h=>?_,fun h=>(by cases h)⟩
    obtain rfl:=isScB_s (show isScB s=true from h)
    exact (cloV_s x.v).2
  | te=>intro s; exact⟨fun h=>(by cases h),fun _ p z hz=>hz⟩
  | tb a b c d ih1 ih2 ih3 ih4 =>
    intro s
    refine⟨fun h=>(by cases h),fun h p z hz=>?_⟩
    have h0:nd (kfit a false s) (nd (kfit b false s) (nd (kfit c false s) (kfit d false s)))=true:=h
    simp only[nd_iff] at h0
    cases p with
    | nil=>exact hz
    | cons g p =>
      cases g
      · exact (ih1 s).2 h0.1 p z hz
      · exact (ih2 s).2 h0.2.1 p z hz
      · exact (ih3 s).2 h0.2.2.1 p z hz
      · exact (ih4 s).2 h0.2.2.2 p z hz
  | tn x a b c d ih0 ih1 ih2 ih3 ih4 =>
    intro s
    refine⟨fun h=>(by cases h),fun h p z hz=>?_⟩
    have h0:nd (kfit x true s) (nd (kfit a false s) (nd (kfit b false s) (nd (kfit c false s) (kfit d false s))))=true:=h
    simp only[nd_iff] at h0
    cases p with
    | nil=>exact ((ih0 s).1 h0.1).1
    | cons g p =>
      cases g
      · exact (ih1 s).2 h0.2.1 p z hz
      · exact (ih2 s).2 h0.2.2.1 p z hz
      · exact (ih3 s).2 h0.2.2.2.1 p z hz
      · exact (ih4 s).2 h0.2.2.2.2 p z hz
  | tup l=>intro s; exact⟨fun h=>(by cases h),fun h=>(by cases h)⟩
  | unk=>intro s; exact⟨fun h=>(by cases h),fun h=>(by cases h)⟩
  | _ =>
    intro s
    refine⟨fun h=>?_,fun h=>(by cases h)⟩
    obtain rfl:=isScB_s (show isScB s=true from h)
    exact⟨rfl,rfl⟩
def kfits (v:KV) (s:Shape):Bool:=kfit v true s
omit [KGl] in
theorem kfits_s {v:KV}{s:Shape}(h:kfits v s=true):v.v.fits s=true∧v.v.known=true:=(kfit_s v s).1 h
end
end Go.K
