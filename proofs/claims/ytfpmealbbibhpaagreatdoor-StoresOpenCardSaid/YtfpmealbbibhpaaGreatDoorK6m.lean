/- Maps in the run. No condition. Single operations: what is made, appended, copied, converted. No condition. Single operations: what is built, converted; all of them. No condition. -/
import Derived.Test.YtfpmealbbibhpaaGreatDoorK4
import Derived.Test.YtfpmealbbibhpaaGreatDoorB20
set_option linter.unusedVariables false
set_option linter.unusedSimpArgs false
namespace Go.K
open Go.Ab Go.RowKit Go.Y
noncomputable section
variable [KGl]
omit [KGl] in
theorem eqFs_same {r:TypeId→V→V→Bool}(ih:∀ t v v',r t v v'=true→eqV v v'=true→sameV v' v=true):∀(fs:List Field) (v v':V),eqFs r fs v v'=true→eqV v v'=true→sameV v' v=true
  | [],v,v',h,e=>by
    cases v<;>cases v'<;>simp [eqFs] at h
    rfl
  | f::fs,v,v',h,e=>by
    cases v<;>cases v'<;>first
      | (simp [eqFs] at h; done)
      | skip
    simp only[eqFs,Bool.and_eq_true] at h
    simp only[eqV,Bool.and_eq_true] at e
    simp only[sameV,Bool.and_eq_true]
    exact⟨ih _ _ _ h.1.2 e.1,eqFs_same ih fs _ _ h.2 e.2⟩
omit [KGl] in
theorem eqT_same {P:Program}:∀(d:Nat) (t:TypeId) (v v':V),eqT P d t v v'=true→eqV v v'=true→sameV v' v=true
  | 0,t,v,v',h,_=>by simp [eqT] at h
  | d + 1,t,v,v',h,e=>by
    have ih:=eqT_same (P:=P) d
    unfold eqT at h
    split at h
    · split at h
      · simp only[eqV,beq_iff_eq] at e h
        subst e; subst h
        simp [sameV]
      · cases h
    · split at h
      · simp only[eqV,beq_iff_eq] at e
        subst e
        simp [sameV]
      · cases h
    · split at h
      · simp only[eqV,beq_iff_eq] at e
        simp [sameV,e]
      · cases h
    · simp only[Bool.and_eq_true] at h
      exact eqFs_same ih _ _ _ h.2 e
    · split at h
      · rename_i a f b g
        simp only[Bool.and_eq_true,beq_iff_eq,List.all_eq_true,List.mem_range] at h
        obtain⟨⟨rfl,rfl⟩,h⟩:=h
        simp only[eqV,List.all_eq_true,List.mem_range] at e
        simp only[sameV,beq_self_eq_true,Bool.true_and,List.all_eq_true,List.mem_range]
        exact fun i hi=>ih _ _ _ (h i hi) (e i hi)
      · cases h
    · cases h
omit [KGl] in
theorem findV_at {P:Program}{kt:TypeId}{k:V}:∀(l:V) (i0 i:Nat) (x:V),keysV P kt k l=true→findV k l i0=some (i,x)→i0≤i∧eqV k (keyAt (i - i0) l)=true∧eqT P 12 kt k (keyAt (i - i0) l)=true
  | .cons k' (.cons v r),i0,i,x,hk,h=>by
    simp only[keysV,Bool.and_eq_true] at hk
    simp only[findV] at h
    cases he:eqV k k' with
    | true =>
      rw[he] at h
      simp only[if_true,Option.some.injEq,Prod.mk.injEq] at h
      obtain⟨rfl,rfl⟩:=h
      rw[Nat.sub_self]
      exact⟨Nat.le_refl _,he,hk.1.1⟩
    | false =>
      rw[he] at h
      obtain⟨h1,h2,h3⟩:=findV_at r (i0 + 1) i x hk.2 h
      have:i - i0=(i - (i0 + 1)) + 1:=by omega
      rw[this]
      exact⟨by omega,h2,h3⟩
  | .nl,i0,i,x,hk,h=>by simp [findV] at h
omit [KGl] in
theorem putOk_of {P:Program}{kt:TypeId}{k l:V}(hk:keysV P kt k l=true):putOk k l=true:=by
  unfold putOk
  cases h:findV k l 0 with
  | none=>rfl
  | some p =>
    obtain⟨i,x⟩:=p
    obtain⟨_,h2,h3⟩:=findV_at l 0 i x hk h
    exact eqT_same _ _ _ _ h3 h2
def keysK (P:Program) (kt:TypeId):KV→Bool
  | .cons k' (.cons _ r)=>nd (kcmp P 12 kt k') (nd (kfits k' (shp P 12 kt)) (keysK P kt r))
  | .nl=>true
  | _=>false
omit [KGl] in
theorem keysK_s {P:Program}{kt:TypeId}{k:KV}(hk:kcmp P 12 kt k=true):∀(l:KV),keysK P kt l=true→keysV P kt k.v l.v=true
  | .cons k' (.cons v r),h=>by
    simp only[keysK,nd_iff] at h
    obtain⟨h1,h2,h3⟩:=h
    simp only[v_cons,keysV,kcmp_s _ _ _ _ hk h1,(kfits_s h2).1,keysK_s hk r h3,Bool.and_self]
  | .nl,_=>rfl
def kfind (k:KV):KV→Nat→Option (Option (Nat×KV))
  | .cons k' (.cons v r),i=>@Option.rec Bool (fun _=>Option (Option (Nat×KV))) none (fun b=>@Bool.rec (fun _=>Option (Option (Nat×KV))) (kfind k r (Nat.succ i)) (some (some (i,v))) b) (keq 40 k k')
  | .nl,_=>some none
  | _,_=>none
def fv2 (r:Option (Nat×KV)):Option (Nat×V):=r.map fun p=>(p.1,p.2.v)
omit [KGl] in
theorem kfind_s {k:KV}:∀(l:KV) (i:Nat) (r:Option (Nat×KV)),kfind k l i=some r→findV k.v l.v i=fv2 r
  | .cons k' (.cons v rs),i,r,h=>by
    unfold kfind at h
    cases hq:keq 40 k k' with
    | none=>rw[hq] at h; cases h
    | some b =>
      rw[hq] at h
      have he:=keq_s _ _ _ _ hq
      simp only[v_cons,findV,he]
      cases b with
      | true =>
        have h':some (some (i,v))=some r:=h
        obtain rfl:=Option.some.inj h'
        rfl
      | false=>exact kfind_s rs (i + 1) r h
  | .nl,i,r,h=>by
    simp only[kfind,Option.some.injEq] at h
    subst h
    rfl
def ksnoc (k x:KV):KV→KV
  | .cons k' (.cons v r)=>.cons k' (.cons v (ksnoc k x r))
  | _=>.cons k (.cons x .nl)
def ksetKV (k x:KV):Nat→KV→KV
  | 0,.cons _ (.cons _ r)=>.cons k (.cons x r)
  | i + 1,.cons k' (.cons v r)=>.cons k' (.cons v (ksetKV k x i r))
  | _,l=>l
omit [KGl] in
theorem ksnoc_v {P:Program}{kt:TypeId}{k x:KV}:∀(l:KV),keysK P kt l=true→(ksnoc k x l).v=snocV k.v x.v l.v
  | .cons k' (.cons v r),h=>by
    simp only[keysK,nd_iff] at h
    simp only[ksnoc,v_cons,snocV,ksnoc_v r h.2.2]
  | .nl,_=>rfl
omit [KGl] in
theorem ksetKV_v {P:Program}{kt:TypeId}{k x:KV}:∀(i:Nat) (l:KV),keysK P kt l=true→(ksetKV k x i l).v=setKV k.v x.v i l.v
  | 0,.cons k' (.cons v r),h=>rfl
  | i + 1,.cons k' (.cons v r),h=>by
    simp only[keysK,nd_iff] at h
    simp only[ksetKV,v_cons,setKV,ksetKV_v i r h.2.2]
  | 0,.nl,_=>rfl
  | _ + 1,.nl,_=>rfl
def kput (k x l:KV) (r:Option (Nat×KV)):KV:=@Option.rec (Nat×KV) (fun _=>KV) (ksnoc k x l) (fun p=>ksetKV k x p.1 l) r
omit [KGl] in
theorem kput_v {P:Program}{kt:TypeId}{k x l:KV}{r:Option (Nat×KV)}(h:keysK P kt l=true) (hr:findV k.v l.v 0=fv2 r):(kput k x l r).v=putV k.v x.v l.v:=by
  unfold putV
  rw[hr]
  cases r with
  | none=>exact ksnoc_v l h
  | some p=>exact ksetKV_v p.1 l h
def kzeroV? (P:Program) (t:TypeId):Option KV:=match kzero? P t,P.info? t with
  | some (s,v),some i=>match i.zero with
    | some z=>bif zfit z s then some v else none
    | none=>none
  | _,_=>none
theorem kzeroV?_s {P:Program}{t:TypeId}{z:KV}(h:kzeroV? P t=some z):zeroV? P t=some z.v:=by
  unfold kzeroV? at h
  split at h
  · rename_i s v i h1 h2
    have h3:=kzero?_s h1
    unfold zeroV?
    rw[h3,h2]
    simp only
    split at h
    · rename_i z' hz
      rw[hz]
      simp only
      cases hf:zfit z' s with
      | true=>rw[hf] at h; cases h; rfl
      | false=>rw[hf] at h; cases h
    · cases h
  · cases h
def mapS (P:Program) (t:TypeId):Option (TypeId×KV):=match P.underlying t with
  | some (.map kt et)=>bif lay P 12 kt then (match kzeroV? P et with | some z=>some (kt,z) | none=>none) else none
  | _=>none
theorem mapS_s {P:Program}{t kt:TypeId}{z:KV}(h:mapS P t=some (kt,z)):∃ et,P.underlying t=some (.map kt et)∧lay P 12 kt=true∧zeroV? P et=some z.v:=by
  unfold mapS at h
  split at h
  · rename_i kt' et hu
    cases hl:lay P 12 kt' with
    | false=>rw[hl] at h; cases h
    | true =>
      rw[hl] at h
      simp only[cond_true] at h
      split at h
      · rename_i z' hz
        simp only[Option.some.injEq,Prod.mk.injEq] at h
        obtain⟨rfl,rfl⟩:=h
        exact⟨et,hu,hl,kzeroV?_s hz⟩
      · cases h
  · cases h
def isMp (k:Kind):Bool:=@Kind.rec (fun _=>Bool) (fun _=>false) (fun _=>false) false (fun _ _ _ _=>false) true k
omit [KGl] in
theorem isMp_eq {k:Kind}(h:isMp k=true):k=.mp:=by cases k<;>first | rfl | (cases h; done)
section
variable {P:Program}{B:Nat}{o:Oper}{τ:Nat→KV}{lo:Nat}{zm:KZ}{nx:Nat}{K:KT}
def kMakeMp (r:Option Operand) (zm:KZ) (nx:Nat) (K:KT):Prop:=@Option.rec Operand (fun _=>Prop) (nwB .mp .nl .nl zm nx fun zm nx'=>K (.yld nx) zm nx' [] []) (fun _=>BadN 260) r
theorem kMakeMp_s {t:TypeId}{r:Option Operand}(ho:o.op=.makeMap t r) (h:kMakeMp r zm nx K):Out P B o τ lo zm nx K:=by
  cases r with
  | none=>exact Out.new (v:=.yld nx) (show nwB .mp .nl .nl zm nx (fun zm nx'=>K (.yld nx) zm nx' [] []) from h) ⟨Go.Ab.sem_makeMap ho,UpIn.nil⟩ (EImp.refl _)
  | some _=>exact (show BadN 260 from h).elim
def lookK (ok:Bool) (z:KV) (r:Option (Nat×KV)):KV:=@Option.rec (Nat×KV) (fun _=>KV) (@Bool.rec (fun _=>KV) z (.tup (.cons z (.cons (.bool false) .nl))) ok) (fun p=>@Bool.rec (fun _=>KV) p.2 (.tup (.cons p.2 (.cons (.bool true) .nl))) ok) r
omit [KGl] in
theorem lookK_v (ok:Bool) (z:KV) (r:Option (Nat×KV)):(lookK ok z r).v=lookV ok z.v (fv2 r):=by
  cases r<;>cases ok<;>rfl
def kLook (P:Program) (t:TypeId) (ok:Bool) (x k:KV) (zm:KZ) (nx:Nat) (K:KT):Prop :=
  os 401 (pr fun kt z=>onYld (fun id=>oB zm id fun kd _ l=>chk (nd (isMp kd) (nd (kcmp P 12 kt k) (nd (kfits k (shp P 12 kt)) (keysK P kt l)))) 402 (os 403 (fun r=>fV (lookK ok z r) fun v=>K v zm nx [] [id]) (kfind k l 0))) (BadN 404) x) (mapS P t)
theorem kLook_s {t:TypeId}{x k:Operand}{ok:Bool}(ho:o.op=.lookup t x k ok) (h:kLook P t ok (kev τ x) (kev τ k) zm nx K):Out P B o τ lo zm nx K:=by
  have hx:=kev_v τ x
  have hk:=kev_v τ k
  obtain⟨⟨kt,z⟩,h1,h2⟩:=os_inv h
  obtain⟨et,hu,hl,hz⟩:=mapS_s h1
  rcases onYld_inv (show onYld _ (BadN 404) (kev τ x) from h2) with ⟨id,hid,h3⟩ | ⟨_,h3⟩
  · obtain⟨kd,sh,l,hb,h4⟩:=oB_inv h3
    obtain⟨h5,h6⟩:=chk_inv h4
    simp only[nd_iff] at h5
    obtain⟨h7,h8,h9,h10⟩:=h5
    obtain rfl:=isMp_eq h7
    obtain⟨r,h11,h12⟩:=os_inv h6
    rw[fV_eq] at h12
    rw[hid] at hx
    refine Out.pure h12 (e:=⟨lookV ok z.v (findV (opv Gl.G (tv' τ) k) l.v 0),[],[],[id]⟩) ⟨sem_lookup ho hx.symm (am_some hb) rfl hu hl ?_ ?_ ?_ hz,UpIn.rd1 (am_some hb)⟩ ?_
    · rw[←hk]; exact kcmp_s _ _ _ _ h8 h8
    · rw[←hk]; exact (kfits_s h9).1
    · rw[←hk]; exact keysK_s h8 l h10
    · rw[lookK_v,←hk,kfind_s l 0 r h11]; exact EImp.refl _
  · exact h3.elim
def kPut (lo:Nat) (P:Program) (t:TypeId) (a k x:KV) (zm:KZ) (nx:Nat) (K:KT):Prop :=
  os 405 (pr fun kt z=>onYld (fun id=>oB zm id fun kd sh l=>chk (nd (Nat.ble lo id) (nd (isMp kd) (nd (kcmp P 12 kt k) (nd (kfits k (shp P 12 kt)) (keysK P kt l))))) 406 (os 407 (fun r=>upB id .mp sh (kput k x l r) zm fun zm=>K (.tup .nl) zm nx [id] []) (kfind k l 0))) (BadN 408) a) (mapS P t)
theorem kPut_s {t:TypeId}{a k x:Operand}(ho:o.op=.mapUpdate t a k x∨o.op=.insert t a k x) (h:kPut lo P t (kev τ a) (kev τ k) (kev τ x) zm nx K):Out P B o τ lo zm nx K:=by
  have ha:=kev_v τ a
  have hk:=kev_v τ k
  have hx:=kev_v τ x
  obtain⟨⟨kt,z⟩,h1,h2⟩:=os_inv h
  obtain⟨et,hu,hl,hz⟩:=mapS_s h1
  rcases onYld_inv (show onYld _ (BadN 408) (kev τ a) from h2) with ⟨id,hid,h3⟩ | ⟨_,h3⟩
  · obtain⟨kd,sh,l,hb,h4⟩:=oB_inv h3
    obtain⟨h5,h6⟩:=chk_inv h4
    simp only[nd_iff] at h5
    obtain⟨h50,h7,h8,h9,h10⟩:=h5
    obtain rfl:=isMp_eq h7
    obtain⟨r,h11,h12⟩:=os_inv h6
    rw[hid] at ha
    have hks:=keysK_s h8 l h10
    rw[hk] at hks
    refine Out.up (v:=.tup .nl) h12 (Nat.le_of_ble_eq_true h50) (e:=⟨.tup .nl,[(id,⟨.mp,sh,putV (opv Gl.G (tv' τ) k) (opv Gl.G (tv' τ) x) l.v⟩)],[],[]⟩)
      ⟨sem_mapPut ho ha.symm (am_some hb) rfl hu hl ?_ ?_ hks (putOk_of hks),UpIn.one (am_some hb)⟩ ?_
    · rw[←hk]; exact kcmp_s _ _ _ _ h8 h8
    · rw[←hk]; exact (kfits_s h9).1
    · rw[kput_v h10 (kfind_s l 0 r h11),hk,hx]; exact EImp.refl _
  · exact h3.elim
def klenM:KV→Option Nat
  | .cons _ (.cons _ r)=>@Option.rec Nat (fun _=>Option Nat) none (fun n=>some (Nat.succ n)) (klenM r)
  | .nl=>some 0
  | _=>none
omit [KGl] in
theorem klenM_s:∀(l:KV) (n:Nat),klenM l=some n→pairsV l.v=true∧lenM l.v=n
  | .cons k (.cons v r),n,h=>by
    unfold klenM at h
    cases hr:klenM r with
    | none=>rw[hr] at h; cases h
    | some q =>
      rw[hr] at h
      have h':some (q + 1)=some n:=h
      obtain rfl:=Option.some.inj h'
      obtain⟨h1,h2⟩:=klenM_s r q hr
      exact⟨h1,by simp only[v_cons,lenM,h2]⟩
  | .nl,n,h=>by
    simp only[klenM,Option.some.injEq] at h
    subst h
    exact⟨rfl,rfl⟩
def isMapT (P:Program) (t:TypeId):Bool:=match P.underlying t with | some (.map _ _)=>true | _=>false
def kLenM (P:Program) (t:TypeId) (x:KV) (zm:KZ) (nx:Nat) (K:KT):Prop :=
  @Bool.rec (fun _=>Prop) (kLen P t x zm nx K) (onYld (fun id=>oB zm id fun kd _ l=>chk (isMp kd) 409 (os 410 (fun n=>fN n fun n=>K (.int .i64 (.ofNat n)) zm nx [] [id]) (klenM l))) (BadN 411) x) (isMapT P t)
theorem kLenM_s {t:TypeId}{x:Operand}(ho:o.op=.call ⟨.builtin .len,#[x],#[t]⟩) (h:kLenM P t (kev τ x) zm nx K):Out P B o τ lo zm nx K:=by
  unfold kLenM at h
  cases hi:isMapT P t with
  | false=>rw[hi] at h; exact kLen_s ho h
  | true =>
    rw[hi] at h
    have hx:=kev_v τ x
    obtain⟨kt,et,hu⟩:∃ kt et,P.underlying t=some (.map kt et):=by
      unfold isMapT at hi
      split at hi
      · exact⟨_,_,‹_›⟩
      · cases hi
    rcases onYld_inv (show onYld _ (BadN 411) (kev τ x) from h) with ⟨id,hid,h3⟩ | ⟨_,h3⟩
    · obtain⟨kd,sh,l,hb,h4⟩:=oB_inv h3
      obtain⟨h5,h6⟩:=chk_inv h4
      obtain rfl:=isMp_eq h5
      obtain⟨n,h7,h8⟩:=os_inv h6
      rw[fN_eq] at h8
      rw[hid] at hx
      obtain⟨h9,h10⟩:=klenM_s l n h7
      refine Out.pure h8 (e:=⟨.int .i64 (lenM l.v),[],[],[id]⟩) ⟨sem_len_map ho hx.symm (am_some hb) rfl hu h9,UpIn.rd1 (am_some hb)⟩ ?_
      rw[h10]; exact EImp.refl _
    · exact h3.elim
end
end
end Go.K
namespace Go.K
open Go.Ab Go.RowKit Go.Y
noncomputable section
variable [KGl]
omit [KGl] in
theorem Imp.arr {n:Nat}{f g:Nat→V}(h:∀ i,i < n→Imp (f i) (g i)):Imp (.arr n f) (.arr n g):=by
  intro C m hr
  cases m with
  | cel s q off=>obtain⟨e,h1,h2⟩:=hr; exact⟨e,h1,fun i hi=>h i hi _ _ (h2 i hi)⟩
  | val v=>obtain⟨cs,e,h1,h2,h3⟩:=hr; exact⟨cs,e,h1,h2,fun i hi=>h i hi _ _ (h3 i hi)⟩
  | list l=>exact hr
omit [KGl] in
theorem Imp.arrE {n:Nat}{f g:Nat→V}(h:∀ i,i < n→f i=g i):Imp (.arr n f) (.arr n g):=Imp.arr fun i hi=>by rw[h i hi]; exact Imp.refl _
omit [KGl] in
theorem Imp.roE {u c:Bool}{e:Shape}{n:Nat}{f g:Nat→V}(h:∀ i,i < n→f i=g i):Imp (.ro u c e n f) (.ro u c e n g):=by
  intro C m hr
  obtain⟨a,k,h1,h2,h3,h4⟩:=hr
  refine⟨a,k,h1,h2,h3,h4.imp id ?_⟩
  rintro⟨b,o,h5,h6,h7⟩
  exact⟨b,o,h5,h6,fun i hi=>by rw[←h i hi]; exact h7 i hi⟩
omit [KGl] in
theorem Imp.refE {u:Bool}{s:Shape}{v w:V}(h:Imp v w):Imp (.ref u s v) (.ref u s w):=by
  intro C m hr
  obtain⟨b,o,h1,h2,h3⟩:=hr
  exact⟨b,o,h1,h2,h _ _ h3⟩
section
variable {P:Program}{B:Nat}{o:Oper}{τ:Nat→KV}{lo:Nat}{zm:KZ}{nx:Nat}{K:KT}
def arK (c:KV):Bool:=match c with
  | .pk _ _ _=>true
  | .ar _ _ _=>true
  | .fa _ _=>true
  | _=>false
omit [KGl] in
theorem arK_s {c:KV}(h:arK c=true):∃ n f,c.v=.arr n f∧∀ i,f i=(kidx i c).v:=by
  unfold arK at h
  split at h
  · exact⟨_,_,rfl,fun i=>rfl⟩
  · exact⟨_,_,rfl,fun i=>by rw[kidx_v]; rfl⟩
  · exact⟨_,_,rfl,fun i=>rfl⟩
  · cases h
def kSrc (x:KV) (zm:KZ) (F:Shape→Nat→Nat→KV→List Nat→Prop):Prop :=
  onSl (fun id p e off len _=>oB zm id fun k _ v=>chk (nd (isAl k) (pthOk p v)) 110 (fV (kpath p v) fun c=>chk (arK c) 111 (F e off len c [id])))
    (onRow (fun id e len=>oB zm id fun k _ v=>chk (nd (isAl k) (arK v)) 112 (F e 0 len v [id]))
      (onRo (fun _ _ e off len c=>F e off len c []) (BadN 113) x) x) x
theorem kSrc_s {x:KV}{F:Shape→Nat→Nat→KV→List Nat→Prop}(h:kSrc x zm F):∃ e off len c rd f,F e off len c rd∧srcV (am zm) x.v=some (e,len,f,rd)∧∀ i,f i=(kidx (off + i) c).v:=by
  rcases onSl_inv h with ⟨id,p,e,off,len,cap,rfl,h1⟩ | ⟨_,h1⟩
  · obtain⟨k,sh,v,hb,h2⟩:=oB_inv h1
    obtain⟨h3,h4⟩:=chk_inv h2
    obtain⟨h3,hpo⟩:=nd_iff.1 h3
    rw[fV_eq] at h4
    obtain⟨h5,h6⟩:=chk_inv h4
    obtain⟨n,f,hf,hf'⟩:=arK_s h5
    refine⟨e,off,len,_,[id],fun i=>f (off + i),h6,?_,fun i=>hf' _⟩
    rw[kpath_v p v hpo] at hf
    show srcV (am zm) (.sl id p e off len cap)=_
    simp only[srcV,am_some hb,KBlk.b,isAl_eq,h3,if_true,hf]
  rcases onRow_inv h1 with ⟨id,e,len,rfl,q1⟩ | ⟨_,h1⟩
  · obtain⟨k,sh,v,hb,h2⟩:=oB_inv q1
    obtain⟨h3,h4⟩:=chk_inv h2
    rw[nd_iff] at h3
    obtain⟨n,f,hf,hf'⟩:=arK_s h3.2
    refine⟨e,0,len,_,[id],f,h4,?_,fun i=>by rw[Nat.zero_add]; exact hf' i⟩
    show srcV (am zm) (.row id e len)=_
    simp only[srcV,am_some hb,KBlk.b,isAl_eq,h3.1,if_true,hf]
  rcases onRo_inv h1 with ⟨u,cl,e,off,len,c,rfl,q1⟩ | ⟨_,h1⟩
  · refine⟨e,off,len,c,[],_,q1,rfl,fun i=>(kidx_v _ _).symm⟩
  · exact h1.elim
def kSrcW (s:Shape) (x:KV) (zm:KZ) (F:Shape→Nat→Nat→KV→List Nat→Prop):Prop:=onNils (F s 0 0 .unk []) (kSrc x zm F) x
theorem kSrcW_s {s:Shape}{x:KV}{F:Shape→Nat→Nat→KV→List Nat→Prop}(h:kSrcW s x zm F):∃ e off len c rd f,F e off len c rd∧srcW (am zm) s x.v=some (e,len,f,rd)∧∀ i,i < len→f i=(kidx (off + i) c).v:=by
  rcases onNils_inv h with ⟨rfl,h1⟩ | ⟨hn,h1⟩
  · exact⟨s,0,0,.unk,[],_,h1,rfl,fun i hi=>by omega⟩
  · obtain⟨e,off,len,c,rd,f,h2,h3,h4⟩:=kSrc_s h1
    refine⟨e,off,len,c,rd,f,h2,?_,fun i _=>h4 i⟩
    unfold srcW
    split
    · rename_i hv; exfalso; unfold srcV at h3; rw[hv] at h3; cases h3
    · exact h3
def kfill (c:KV) (off at':Nat) (n:Nat):KV→(KV→Prop)→Prop:=@Nat.rec (fun _=>KV→(KV→Prop)→Prop) (fun t K=>K t) (fun j ih t K=>ih t fun t=>fV (kidx (Nat.add off j) c) fun x=>ksetK x (enc (Nat.add at' j)) t K) n
theorem kfill_s {c:KV}{off at':Nat}:∀(n:Nat) (t:KV) (K:KV→Prop),kfill c off at' n t K→∃ t',K t'∧∀ i z,t'.atv (enc i) z=if at'≤i∧i < at' + n then (kidx (off + (i - at')) c).v else t.atv (enc i) z
  | 0,t,K,h=>⟨t,h,fun i z=>by rw[if_neg (by omega)]⟩
  | n + 1,t,K,h=>by
    obtain⟨t',h1,h2⟩:=kfill_s n t _ (show kfill c off at' n t (fun t=>fV (kidx (Nat.add off n) c) fun x=>ksetK x (enc (Nat.add at' n)) t K) from h)
    rw[fV_eq,ksetK_eq] at h1
    refine⟨_,h1,fun i z=>?_⟩
    rw[kset_at,h2]
    by_cases hi:i=at' + n
    · subst hi
      rw[if_pos (show at' + n=Nat.add at' n from rfl),if_pos (by omega),show at' + n - at'=n by omega]; rfl
    · rw[if_neg (show ¬ i=Nat.add at' n from hi)]
      by_cases h3:at'≤i∧i < at' + n
      · rw[if_pos h3,if_pos (by omega)]
      · rw[if_neg h3,if_neg (by omega)]
def offF (off0:Nat) (f:Nat→KV):Nat→KV:=@Bool.rec (fun _=>Nat→KV) (fun i=>f (Nat.add off0 i)) f (Nat.beq off0 0)
omit [KGl] in
theorem offF_eq (off0:Nat) (f:Nat→KV) (i:Nat):offF off0 f i=f (off0 + i):=by
  unfold offF
  cases h:Nat.beq off0 0 with
  | false=>rfl
  | true=>obtain rfl:=beqE h; rw[Nat.zero_add]
def kcatP (len0:Nat) (c:KV) (off k:Nat) (K:KV→Prop) (off0:Nat) (kk:IntKind) (_ x0:Nat):Prop :=
  onPk (fun kk' _ y=>chk (ikEq kk kk') 114 (fN (Nat.add (pkx kk x0 off0 len0) (Nat.shiftLeft (pkx kk y off k) (Nat.mul (wd kk) len0))) fun z=>K (.pk kk (Nat.add len0 k) z)))
    (chk (Nat.beq k 0) 115 (K (.pk kk len0 (pkx kk x0 off0 len0)))) c
def kcatA (len0:Nat) (c:KV) (off k:Nat) (K:KV→Prop) (off0:Nat) (c0:KV) (_:Nat) (d t:KV):Prop :=
  @Bool.rec (fun _=>Prop) (kfill c0 off0 0 len0 .te fun t=>kfill c off len0 k t fun t=>K (.ar (Nat.add len0 k) d t)) (kfill c off len0 k t fun t=>K (.ar (Nat.add len0 k) d t)) (Nat.beq off0 0)
def kcatN (z:KV) (c:KV) (off k:Nat) (K:KV→Prop):Prop :=
  onPk (fun kk _ y=>fN (pkx kk y off k) fun y=>K (.pk kk k y)) (onAr (fun _ d t=>@Bool.rec (fun _=>Prop) (kfill c off 0 k .te fun t=>K (.ar k d t)) (K (.ar k d t)) (Nat.beq off 0)) (onFa (fun _ g=>K (.fa k (offF off g))) (chk (Nat.beq k 0) 116 (K (kzarr 0 z))) c) c) c
def iteIn (lo hi j:Nat) (a b:KV):KV:=@Bool.rec (fun _=>KV) b a (nd (Nat.ble lo j) (Nat.blt j hi))
omit [KGl] in
theorem iteIn_eq (lo hi j:Nat) (a b:KV):iteIn lo hi j a b=if lo≤j∧j < hi then a else b:=by
  unfold iteIn
  by_cases h:lo≤j∧j < hi
  · rw[if_pos h,show nd (Nat.ble lo j) (Nat.blt j hi)=true from nd_iff.2 ⟨Nat.ble_eq_true_of_le h.1,nblt.2 h.2⟩]
  · rw[if_neg h]
    cases hb:nd (Nat.ble lo j) (Nat.blt j hi) with
    | false=>rfl
    | true=>obtain⟨h1,h2⟩:=nd_iff.1 hb; exact absurd ⟨Nat.le_of_ble_eq_true h1,nblt.1 h2⟩ h
def kpushF (c:KV) (off len0:Nat) (k:Nat):(Nat→KV)→((Nat→KV)→Prop)→Prop:=@Nat.rec (fun _=>(Nat→KV)→((Nat→KV)→Prop)→Prop) (fun f K=>K f) (fun j ih f K=>ih f fun f=>fV (kidx (Nat.add off j) c) fun x=>K fun i=>ifN i (Nat.add len0 j) x (f i)) k
theorem kpushF_s {c:KV}{off len0:Nat}{f:Nat→KV}:∀ {k:Nat}{K:(Nat→KV)→Prop},kpushF c off len0 k f K→∃ g,K g∧∀ i,i < len0 + k→g i=if i < len0 then f i else kidx (off + (i - len0)) c
  | 0,K,h=>⟨f,h,fun i hi=>by rw[if_pos (by omega)]⟩
  | k + 1,K,h=>by
    obtain⟨g,h1,h2⟩:=kpushF_s (show kpushF c off len0 k f (fun f=>fV (kidx (Nat.add off k) c) fun x=>K fun i=>ifN i (Nat.add len0 k) x (f i)) from h)
    rw[fV_eq] at h1
    refine⟨_,h1,fun i hi=>?_⟩
    rw[ifN_eq]
    by_cases h:i=len0 + k
    · rw[if_pos (show i=Nat.add len0 k from h),if_neg (by omega),show i - len0=k by omega]; rfl
    · rw[if_neg (show ¬ i=Nat.add len0 k from h),h2 i (by omega)]
def kcatF (len0:Nat) (c:KV) (off k:Nat) (K:KV→Prop) (off0:Nat) (c0:KV) (_:Nat) (f:Nat→KV):Prop :=
  onFa (fun _ g=>K (.fa (Nat.add len0 k) fun i=>iteIn 0 len0 i (offF off0 f i) (g (Nat.add off (Nat.sub i len0))))) (kpushF c off len0 k (offF off0 f) fun f=>K (.fa (Nat.add len0 k) f)) c
def kcatO (z:KV) (c0:KV) (off0 len0:Nat) (c:KV) (off k:Nat) (K:KV→Prop):Prop :=
  @Bool.rec (fun _=>Prop) (onPk (kcatP len0 c off k K off0) (onAr (kcatA len0 c off k K off0 c0) (BadN 117) c0) c0) (kcatN z c off k K) (Nat.beq len0 0)
def kcat (z:KV) (c0:KV) (off0 len0:Nat) (c:KV) (off k:Nat) (K:KV→Prop):Prop :=
  onFa (kcatF len0 c off k K off0 c0) (kcatO z c0 off0 len0 c off k K) c0
omit [KGl] in
theorem cat_bits {kk:IntKind}{a b len0 j:Nat}(ha:a < 2 ^ (wd kk * len0)):pkr kk (a + b <<< (wd kk * len0)) j=if j < len0 then pkr kk a j else pkr kk b (j - len0):=by
  have h0:a + b <<< (wd kk * len0)=b <<< (wd kk * len0) ||| a:=by
    rw[Nat.add_comm,Nat.shiftLeft_eq,Nat.mul_comm b]
    exact Nat.two_pow_add_eq_or_of_lt ha b
  have hbit:∀ q,(a + b <<< (wd kk * len0)).testBit q=if q < wd kk * len0 then a.testBit q else b.testBit (q - wd kk * len0):=by
    intro q
    rw[h0,Nat.testBit_or,Nat.testBit_shiftLeft]
    by_cases hq:q < wd kk * len0
    · rw[if_pos hq]; simp [show ¬ wd kk * len0≤q by omega]
    · rw[if_neg hq,bit_big ha (by omega)]; simp [show wd kk * len0≤q by omega]
  apply Nat.eq_of_testBit_eq; intro q
  show (bts (a + b <<< (wd kk * len0)) (wd kk * j) (wd kk)).testBit q=_
  rw[bts_bit,hbit]
  by_cases hq:q < wd kk
  · by_cases hj:j < len0
    · have:wd kk * (j + 1)≤wd kk * len0:=Nat.mul_le_mul_left _ hj
      rw[Nat.mul_succ] at this
      rw[if_pos (by omega),if_pos hj]
      show _=(bts a (wd kk * j) (wd kk)).testBit q
      rw[bts_bit]
    · have:wd kk * len0≤wd kk * j:=Nat.mul_le_mul_left _ (by omega)
      rw[if_neg (by omega),if_neg hj]
      show _=(bts b (wd kk * (j - len0)) (wd kk)).testBit q
      rw[bts_bit,Nat.mul_sub,show wd kk * j + q - wd kk * len0=wd kk * j - wd kk * len0 + q by omega]
  · have h1:∀ x y,(pkr kk x y).testBit q=false:=fun x y=>by
      show (bts x (wd kk * y) (wd kk)).testBit q=false
      rw[bts_bit]; simp [hq]
    simp only[hq,decide_false,Bool.false_and]
    split<;>rw[h1]
theorem kcat_s {z c0 c:KV}{off0 len0 off k:Nat}{K:KV→Prop}(h:kcat z c0 off0 len0 c off k K):∃ c' g,K c'∧c'.v=.arr (len0 + k) g∧∀ i,i < len0 + k→g i=if i < len0 then (kidx (off0 + i) c0).v else (kidx (off + (i - len0)) c).v:=by
  rcases onFa_inv (show onFa (kcatF len0 c off k K off0 c0) (kcatO z c0 off0 len0 c off k K) c0 from h) with ⟨n0,f,rfl,h1⟩ | ⟨_,h⟩
  · rcases onFa_inv (show onFa _ _ c from h1) with ⟨n1,g,rfl,h2⟩ | ⟨_,h2⟩
    · refine⟨_,_,h2,v_fa _ _,fun i hi=>?_⟩
      show (iteIn 0 len0 i (offF off0 f i) (g (off + (i - len0)))).v=_
      rw[iteIn_eq,offF_eq]
      by_cases hi':i < len0
      · rw[if_pos ⟨Nat.zero_le _,hi'⟩,if_pos hi']; rfl
      · rw[if_neg (fun h=>hi' h.2),if_neg hi']; rfl
    · obtain⟨g,h3,h4⟩:=kpushF_s h2
      refine⟨_,_,h3,v_fa _ _,fun i hi=>?_⟩
      rw[h4 i hi]
      by_cases hi':i < len0
      · rw[if_pos hi',if_pos hi',offF_eq]; rfl
      · rw[if_neg hi',if_neg hi']
  unfold kcatO at h
  cases hl:Nat.beq len0 0 with
  | true =>
    obtain rfl:=beqE hl
    rw[hl] at h
    rcases onPk_inv (show kcatN z c off k K from h) with ⟨kk,n,y,rfl,h1⟩ | ⟨_,h1⟩
    · rw[fN_eq] at h1
      refine⟨_,_,h1,by rw[v_pk,Nat.zero_add],fun i hi=>?_⟩
      rw[if_neg (by omega),Nat.sub_zero]
      show V.int kk (dec kk (pkr kk _ i))=V.int kk (dec kk (pkr kk y (off + i)))
      rw[pkr_pkx (by omega)]
    · rcases onAr_inv h1 with ⟨n,d,t,rfl,q1⟩ | ⟨_,h1⟩
      · cases ho:Nat.beq off 0 with
        | true =>
          obtain rfl:=beqE ho
          refine⟨_,_,(by rw[ho] at q1; exact q1),by rw[v_ar,Nat.zero_add],fun i hi=>?_⟩
          rw[if_neg (by omega),Nat.zero_add,Nat.sub_zero,kidx_v]; rfl
        | false =>
          rw[ho] at q1
          obtain⟨t',h2,h3⟩:=kfill_s _ _ _ (show kfill (.ar n d t) off 0 k .te _ from q1)
          refine⟨_,_,h2,by rw[v_ar,Nat.zero_add],fun i hi=>?_⟩
          rw[h3,if_pos (by omega),if_neg (by omega)]
      · rcases onFa_inv h1 with ⟨n,g,rfl,q1⟩ | ⟨_,h1⟩
        · refine⟨_,_,q1,by rw[v_fa,Nat.zero_add],fun i hi=>?_⟩
          rw[if_neg (by omega),Nat.sub_zero,offF_eq]; rfl
        obtain⟨h2,h3⟩:=chk_inv h1
        obtain rfl:=beqE h2
        exact⟨_,_,h3,kzarr_v 0 z,fun i hi=>by omega⟩
  | false =>
    rw[hl] at h
    rcases onPk_inv (show onPk (kcatP len0 c off k K off0) _ c0 from h) with ⟨kk,n0,x0,rfl,h1⟩ | ⟨_,h1⟩
    · rcases onPk_inv h1 with ⟨kk',n,y,rfl,h2⟩ | ⟨_,h2⟩
      · obtain⟨h3,h4⟩:=chk_inv h2
        obtain rfl:=ikEq_eq h3
        rw[fN_eq] at h4
        refine⟨_,_,h4,rfl,fun i hi=>?_⟩
        show V.int kk (dec kk (pkr kk (pkx kk x0 off0 len0 + (pkx kk y off k) <<< (wd kk * len0)) i))=_
        rw[cat_bits (pkx_lt _ _ _ _)]
        by_cases hi':i < len0
        · rw[if_pos hi',if_pos hi',pkr_pkx hi']; rfl
        · rw[if_neg hi',if_neg hi',pkr_pkx (by omega)]; rfl
      · obtain⟨h3,h4⟩:=chk_inv h2
        obtain rfl:=beqE h3
        refine⟨_,_,h4,rfl,fun i hi=>?_⟩
        rw[if_pos (by omega)]
        show V.int kk (dec kk (pkr kk _ i))=V.int kk (dec kk (pkr kk x0 (off0 + i)))
        rw[pkr_pkx (by omega)]
    · rcases onAr_inv h1 with ⟨n0,d,t,rfl,h2⟩ | ⟨_,h2⟩
      · unfold kcatA at h2
        cases ho:Nat.beq off0 0 with
        | true =>
          obtain rfl:=beqE ho
          rw[ho] at h2
          obtain⟨t',h3,h4⟩:=kfill_s _ _ _ (show kfill c off len0 k t _ from h2)
          refine⟨_,_,h3,rfl,fun i hi=>?_⟩
          show t'.atv (enc i) d.v=_
          rw[h4]
          by_cases hi':i < len0
          · rw[if_neg (by omega),if_pos hi',kidx_v,Nat.zero_add]; rfl
          · rw[if_pos (by omega),if_neg hi']
        | false =>
          rw[ho] at h2
          obtain⟨t1,h3,h4⟩:=kfill_s _ _ _ (show kfill (.ar n0 d t) off0 0 len0 .te _ from h2)
          obtain⟨t',h5,h6⟩:=kfill_s _ _ _ h3
          refine⟨_,_,h5,rfl,fun i hi=>?_⟩
          show t'.atv (enc i) d.v=_
          rw[h6]
          by_cases hi':i < len0
          · rw[if_neg (by omega),if_pos hi',h4,if_pos (by omega),Nat.sub_zero]
          · rw[if_pos (by omega),if_neg hi']
      · exact h2.elim
def arZ (c:KV):Nat:=match c with
  | .pk _ n _=>n
  | .ar n _ _=>n
  | .fa n _=>n
  | _=>0
omit [KGl] in
theorem arZ_s {c:KV}{n:Nat}{f:Nat→V}(h:arK c=true) (hv:c.v=.arr n f):arZ c=n:=by
  unfold arK at h
  unfold arZ
  split at h
  · rw[v_pk] at hv; cases hv; rfl
  · rw[v_ar] at hv; cases hv; rfl
  · rw[v_fa] at hv; cases hv; rfl
  · cases h
def kcpyF (c0:KV) (off cnt:Nat) (c:KV) (offs:Nat) (K:KV→Prop):Prop:=chk (arK c0) 414 (K (.fa (arZ c0) fun j=>iteIn off (Nat.add off cnt) j (kidx (Nat.add offs (Nat.sub j off)) c) (kidx j c0)))
def kcpyO (c0:KV) (off cnt:Nat) (c:KV) (offs:Nat) (K:KV→Prop):Prop :=
  onPk (fun kk n x=>onPk (fun kk' _ y=>chk (ikEq kk kk') 118 (fN (pkp kk x off cnt (pkx kk y offs cnt)) fun x=>K (.pk kk n x))) (chk (Nat.beq cnt 0) 119 (K c0)) c)
    (onAr (fun n d t=>kfill c offs off cnt t fun t=>K (.ar n d t)) (BadN 120) c0) c0
def kcpy (c0:KV) (off cnt:Nat) (c:KV) (offs:Nat) (K:KV→Prop):Prop :=
  onFa (fun _ _=>kcpyF c0 off cnt c offs K) (onFa (fun _ _=>kcpyF c0 off cnt c offs K) (kcpyO c0 off cnt c offs K) c0) c
theorem kcpy_s {c0 c:KV}{off cnt offs N:Nat}{f0 f:Nat→V}{K:KV→Prop}(h:kcpy c0 off cnt c offs K) (h0:c0.v=.arr N f0) (hf:∀ i,i < cnt→f i=(kidx (offs + i) c).v):∃ c',K c'∧c'.v=.arr N (cpF off cnt f0 f):=by
  have key:∀ j,cpF off cnt f0 f j=if off≤j∧j < off + cnt then f (j - off) else f0 j:=by
    intro j
    unfold cpF
    rw[V.ite_eq]
    by_cases hj:off≤j∧j < off + cnt
    · rw[if_pos hj]; simp [hj.1,hj.2]
    · rw[if_neg hj]
      have:(decide (off≤j)&&decide (j < off + cnt))=false:=by simpa using hj
      rw[this]; rfl
  have fa:kcpyF c0 off cnt c offs K→∃ c',K c'∧c'.v=.arr N (cpF off cnt f0 f):=by
    intro h
    obtain⟨h1,h2⟩:=chk_inv h
    obtain⟨n,g,h3,h4⟩:=arK_s h1
    have hz:=arZ_s h1 h0
    rw[h0] at h3
    injection h3 with e1 e2
    subst e1; subst e2
    refine⟨_,h2,?_⟩
    rw[v_fa,hz]
    congr 1
    funext j
    rw[key,iteIn_eq]
    by_cases hj:off≤j∧j < off + cnt
    · rw[if_pos (show off≤j∧j < Nat.add off cnt from hj),if_pos hj,hf _ (by omega)]; rfl
    · rw[if_neg (show ¬ (off≤j∧j < Nat.add off cnt) from hj),if_neg hj,h4]
  rcases onFa_inv (show onFa _ _ c from h) with ⟨_,_,_,h1⟩ | ⟨_,h1⟩
  · exact fa h1
  rcases onFa_inv h1 with ⟨_,_,_,h1⟩ | ⟨_,h⟩
  · exact fa h1
  clear h1 fa
  rcases onPk_inv (show onPk _ _ c0 from h) with ⟨kk,n,x,rfl,h1⟩ | ⟨_,h1⟩
  · rw[v_pk] at h0
    injection h0 with e1 e2
    subst e1; subst e2
    rcases onPk_inv h1 with ⟨kk',m,y,rfl,h2⟩ | ⟨_,h2⟩
    · obtain⟨h3,h4⟩:=chk_inv h2
      obtain rfl:=ikEq_eq h3
      rw[fN_eq] at h4
      refine⟨_,h4,?_⟩
      rw[v_pk]
      congr 1
      funext j
      rw[key]
      unfold pkg
      rw[pkr_pkp (pkx_lt _ _ _ _)]
      by_cases hj:off≤j∧j < off + cnt
      · rw[if_pos hj,if_pos hj,hf _ (by omega),pkr_pkx (by omega)]; rfl
      · rw[if_neg hj,if_neg hj]
    · obtain⟨h3,h4⟩:=chk_inv h2
      obtain rfl:=beqE h3
      refine⟨_,h4,?_⟩
      rw[v_pk]
      congr 1
      funext j
      rw[key,if_neg (by omega)]
  · rcases onAr_inv h1 with ⟨n,d,t,rfl,h2⟩ | ⟨_,h2⟩
    · rw[v_ar] at h0
      injection h0 with e1 e2
      subst e1; subst e2
      obtain⟨t',h3,h4⟩:=kfill_s _ _ _ h2
      refine⟨_,h3,?_⟩
      rw[v_ar]
      congr 1
      funext j
      rw[key,h4]
      by_cases hj:off≤j∧j < off + cnt
      · rw[if_pos hj,if_pos hj,hf _ (by omega)]
      · rw[if_neg hj,if_neg hj]
    · exact h2.elim
def apS (P : Program) (t t' : TypeId) : Option (TypeId × (Shape × KV)) := if t' = t then match P.underlying t with
    | some (.slice et)=>match kzero? P et,P.info? et with
      | some (s,z),some i=>if i.bytes≤1048576∧0 < s.size then some (et,(s,z)) else none
      | _,_=>none
    | _=>none
  else none
def kApN (et:TypeId) (s:Shape) (z:KV) (zm:KZ) (nx:Nat) (K:KT) (off k:Nat) (c:KV) (rd:List Nat):Prop :=
  cnd (apB 0 k) (kcat z .unk 0 0 c off k fun c'=>nwB (.row et) (.arr k s) c' zm nx fun zm nx'=>K (.row nx s k) zm nx' [] rd)
def kApW (lo:Nat) (et:TypeId) (s:Shape) (z:KV) (zm:KZ) (nx:Nat) (K:KT) (off k:Nat) (c:KV) (rd:List Nat) (id:Nat) (s':Shape) (len:Nat):Prop :=
  oB zm id fun kd sh v=>@Kind.rec (fun _=>Prop) (fun _=>BadN 121) (fun et'=>chk (nd (Nat.ble lo id) (nd (s'.beq s) (nd (Nat.beq et' et) (nd (Nat.blt id nx) (arK v))))) 122
    (cnd (apB len k) (kcat z v 0 len c off k fun c'=>upB id .dead sh .unk zm fun zm=>fN (Nat.add len k) fun m=>nwB (.row et) (.arr m s) c' zm nx fun zm nx'=>K (.row nx s m) zm nx' [id] rd))) (BadN 123) (fun _ _ _ _=>BadN 123) (BadN 123) kd
def kApR (et:TypeId) (s:Shape) (z:KV) (zm:KZ) (nx:Nat) (K:KT) (off k:Nat) (c:KV) (rd:List Nat) (_ clip:Bool) (s':Shape) (off0 len:Nat) (c0:KV):Prop :=
  chk (nd clip (s'.beq s)) 124 (cnd (apB len k&&Nat.blt 0 k) (kcat z c0 off0 len c off k fun c'=>fN (Nat.add len k) fun m=>nwB (.row et) (.arr m s) c' zm nx fun zm nx'=>K (.row nx s m) zm nx' [] rd))
def kApLg (et:TypeId) (s:Shape) (z:KV) (zm:KZ) (nx:Nat) (K:KT) (off k:Nat) (c:KV) (rd:List Nat) (id off0 len:Nat) (c0:KV):Prop :=
  chk (Nat.blt 0 k) 212 (kcat z c0 off0 len c off k fun c'=>fN (Nat.add len k) fun m=>nwB (.row et) (.arr m s) c' zm nx fun zm nx'=>K (.row nx s m) zm nx' [] (id::rd))
def kApLf (lo:Nat) (zm:KZ) (nx:Nat) (K:KT) (off k:Nat) (c:KV) (rd:List Nat) (id:Nat) (p:List Step) (s':Shape) (off0 len cap:Nat) (kd:Kind) (sh:Shape) (v c0:KV):Prop :=
  chk (nd (Nat.ble lo id) (Nat.ble (off0 + len + k) (arZ c0))) 213 (fN (Nat.add off0 len) fun q=>kcpy c0 q k c off fun c'=>ksetP c' p v fun v'=>fN (Nat.add len k) fun m=>upB id kd sh v' zm fun zm=>K (.sl id p s' off0 m (some cap)) zm nx [id] rd)
def kApL (lo:Nat) (et:TypeId) (s:Shape) (z:KV) (zm:KZ) (nx:Nat) (K:KT) (off k:Nat) (c:KV) (rd:List Nat) (id:Nat) (p:List Step) (s':Shape) (off0 len:Nat) (cp:Option Nat):Prop :=
  os 210 (fun cap=>oB zm id fun kd sh v=>fV (kpath p v) fun c0=>chk (nd (isAl kd) (nd (s'.beq s) (nd (apB len k) (nd (pthOk p v) (arK c0))))) 211
    (@Bool.rec (fun _=>Prop) (kApLg et s z zm nx K off k c rd id off0 len c0) (kApLf lo zm nx K off k c rd id p s' off0 len cap kd sh v c0) (Nat.ble (Nat.add len k) cap))) cp
def kAp (lo:Nat) (et:TypeId) (s:Shape) (z:KV) (x:KV) (zm:KZ) (nx:Nat) (K:KT) (s2:Shape) (off k:Nat) (c:KV) (rd:List Nat):Prop :=
  chk (s2.beq s) 125 (onRow (kApW lo et s z zm nx K off k c rd) (onNils (kApN et s z zm nx K off k c rd) (onRo (kApR et s z zm nx K off k c rd) (onSl (kApL lo et s z zm nx K off k c rd) (BadN 126) x) x) x) x)
def kAppend (lo:Nat) (P:Program) (t t':TypeId) (x y:KV) (zm:KZ) (nx:Nat) (K:KT):Prop :=
  os 127 (pr fun et sz=>pr (fun s z=>kSrcW s y zm (kAp lo et s z x zm nx K)) sz) (apS P t t')
omit [KGl] in
theorem cpImp {len k:Nat}{f0 f g:Nat→V}{h0:Nat→V}(hg:∀ i,i < len + k→g i=if i < len then h0 i else f (i - len)) (h1:∀ i,i < len→f0 i=h0 i):Imp (.arr (len + k) (appF len f0 f)) (.arr (len + k) g):=by
  refine Imp.arrE fun i hi=>?_
  rw[hg i hi]
  unfold appF
  rw[V.ite_eq]
  by_cases h:i < len
  · rw[if_pos h,←h1 i h]; simp [h]
  · rw[if_neg h]; simp [h]
theorem kAppend_s {t t':TypeId}{x y:Operand}(ho:o.op=.call ⟨.builtin .append,#[x,y],#[t,t']⟩) (h:kAppend lo P t t' (kev τ x) (kev τ y) zm nx K):Out P B o τ lo zm nx K:=by
  have hx:=kev_v τ x
  have hy:=kev_v τ y
  obtain⟨⟨et,s,z⟩,h1,h2⟩:=os_inv h
  have key:t'=t∧P.underlying t=some (.slice et)∧zero? P et=some (s,z.v)∧∃ i,P.info? et=some i∧(i.bytes≤1048576∧0 < s.size):=by
    unfold apS at h1
    split at h1
    · rename_i ht
      split at h1
      · rename_i et' hu
        split at h1
        · rename_i s' z' i hz hi
          split at h1
          · rename_i hc
            simp only[Option.some.injEq,Prod.mk.injEq] at h1
            obtain⟨rfl,rfl,rfl⟩:=h1
            exact⟨ht,hu,kzero?_s hz,i,hi,hc⟩
          · cases h1
        · cases h1
      · cases h1
    · cases h1
  obtain⟨rfl,hu,hz,i,hi,hc⟩:=key
  obtain⟨s2,off,k,c,rd,f,h3,h4,h5⟩:=kSrcW_s (show kSrcW s (kev τ y) zm (kAp lo et s z (kev τ x) zm nx K) from h2)
  obtain⟨h6,h7⟩:=chk_inv h3
  rw[hy] at h4
  have hY:∀ r,(yApp et (opv Gl.G (tv' τ) x) s k f rd (am zm) nx).is r→(yAppend P t' t' (opv Gl.G (tv' τ) x) (opv Gl.G (tv' τ) y) (am zm) nx).is r:=by
    intro r hr
    unfold yAppend
    simp only[if_true,hu,hz,hi,h4,h6]
    rw[if_pos hc]
    exact hr
  rcases onRow_inv h7 with ⟨id,s',len,hp,h8⟩ | ⟨_,h8⟩
  · obtain⟨kd,sh,v,hb,h9⟩:=oB_inv h8
    cases kd with
    | box=>exact (show BadN 121 from h9).elim
    | dead=>exact (show BadN 123 from h9).elim
    | lp k ps x y=>exact (show BadN 123 from h9).elim
    | mp=>exact (show BadN 123 from h9).elim
    | row et' =>
      obtain⟨h10,h11⟩:=chk_inv h9
      obtain⟨h12,h13⟩:=cnd_iff.1 h11
      simp only[nd_iff] at h10
      obtain⟨q1,q2,q3,q4,q5⟩:=h10
      obtain⟨n1,f0,hf,hf'⟩:=arK_s q5
      obtain⟨c',g,h14,h15,h16⟩:=kcat_s h13
      rw[hp] at hx
      have h17:upB id .dead sh .unk zm fun zm=>nwB (.row et) (.arr (len + k) s) c' zm nx fun zm nx'=>K (.row nx s (len + k)) zm nx' [id] rd:=by
        rw[upB_eq,fN_eq] at h14
        rw[upB_eq]; exact h14
      refine Out.upnew (v:=.row nx s (len + k)) (nblt.1 q4) h17 (Nat.le_of_ble_eq_true q1) (yAppend_s (e:=⟨.row nx s (len + k),[(id,⟨.dead,sh,.unk⟩)],[⟨.row et,.arr (len + k) s,.arr (len + k) (appF len f0 f)⟩],rd⟩) ho (hY _ ?_)) ?_
      · rw[←hx]
        show (yApp et (.row id s' len) s k f rd (am zm) nx).is _
        simp only[yApp,am_some hb,KBlk.b,hf,appX_eq]
        rw[if_pos ⟨q2,beqE q3,q4⟩]
        exact tstE h12
      · refine⟨Imp.refl _,rfl,rfl,rfl,fun M n i b hb'=>?_⟩
        unfold put touch at hb' ⊢
        simp only[List.length_cons,List.length_nil] at hb' ⊢
        by_cases hin:n≤i∧i < n + (0 + 1)
        · rw[if_pos hin] at hb' ⊢
          obtain rfl:i=n:=by omega
          simp only[Nat.sub_self,List.getElem?_cons_zero] at hb' ⊢
          cases hb'
          refine⟨_,rfl,.inr ⟨rfl,rfl,?_,fun h=>(by cases h)⟩⟩
          rw[h15]
          exact cpImp (h0:=fun i=>(kidx (0 + i) v).v) (fun i hi=>by
            rw[h16 i hi]
            by_cases hl:i < len
            · rw[if_pos hl,if_pos hl]
            · rw[if_neg hl,if_neg hl,h5 _ (by omega)]) (fun i hi=>by rw[hf',Nat.zero_add])
        · rw[if_neg hin] at hb' ⊢
          exact⟨b,hb',BImp.refl b⟩
  rcases onNils_inv h8 with ⟨hp,h8⟩ | ⟨_,h8⟩
  · obtain⟨h12,h13⟩:=cnd_iff.1 h8
    obtain⟨c',g,h14,h15,h16⟩:=kcat_s h13
    rw[hp] at hx
    refine Out.new (v:=.row nx s k) h14 (yAppend_s (e:=⟨.row nx s (0 + k),[],[⟨.row et,.arr (0 + k) s,.arr (0 + k) (appF 0 (fun _=>.unk) f)⟩],rd⟩) ho (hY _ ?_)) ?_
    · rw[←hx]
      show (yApp et .nils s k f rd (am zm) nx).is _
      simp only[yApp,appX_eq]
      exact tstE h12
    · rw[Nat.zero_add,v_row]
      refine EImp.new (Imp.refl _) (.inr ⟨rfl,rfl,?_,fun h=>(by cases h)⟩)
      show Imp _ c'.v
      rw[h15]
      have h17:=cpImp (len:=0) (k:=k) (f0:=fun _=>.unk) (f:=f) (g:=g) (h0:=fun _=>.unk) (fun i hi=>by
        rw[h16 i hi,if_neg (by omega),if_neg (by omega),h5 _ (by omega)]) (fun i hi=>by omega)
      rw[Nat.zero_add] at h17 ⊢
      exact h17
  rcases onRo_inv h8 with ⟨u,clip,s',off0,len,c0,hp,h8⟩ | ⟨_,h8⟩
  · obtain⟨h9,h10⟩:=chk_inv h8
    obtain⟨h12,h13⟩:=cnd_iff.1 h10
    rw[nd_iff] at h9
    obtain⟨rfl,q1⟩:=h9
    obtain⟨c',g,h14,h15,h16⟩:=kcat_s h13
    rw[fN_eq] at h14
    rw[hp] at hx
    refine Out.new (v:=.row nx s (len + k)) h14 (yAppend_s (e:=⟨.row nx s (len + k),[],[⟨.row et,.arr (len + k) s,.arr (len + k) (appF len (fun i=>c0.v.step (.idx (off0 + i))) f)⟩],rd⟩) ho (hY _ ?_)) ?_
    · rw[←hx]
      show (yApp et (.ro u true s' len fun i=>c0.v.step (.idx (off0 + i))) s k f rd (am zm) nx).is _
      simp only[yApp,q1,if_true,appX_eq]
      exact tstE h12
    · refine EImp.new (Imp.refl _) (.inr ⟨rfl,rfl,?_,fun h=>(by cases h)⟩)
      show Imp _ c'.v
      rw[h15]
      exact cpImp (h0:=fun i=>(kidx (off0 + i) c0).v) (fun i hi=>by
        rw[h16 i hi]
        by_cases hl:i < len
        · rw[if_pos hl,if_pos hl]
        · rw[if_neg hl,if_neg hl,h5 _ (by omega)]) (fun i hi=>by rw[kidx_v])
  rcases onSl_inv h8 with ⟨id,p,s',off0,len,cp,hp,h8⟩ | ⟨_,h8⟩
  · obtain⟨cap,rfl,h9⟩:=os_inv h8
    obtain⟨kd,sh,v,hb,h10⟩:=oB_inv h9
    rw[fV_eq] at h10
    obtain⟨h11,h12⟩:=chk_inv h10
    simp only[nd_iff] at h11
    obtain⟨q1,q2,q3,hpo,q5⟩:=h11
    obtain⟨N,f0,hf,hf'⟩:=arK_s q5
    have hN:arZ (kpath p v)=N:=arZ_s q5 hf
    have hf2:=hf
    rw[kpath_v p v hpo] at hf2
    rw[hp] at hx
    cases hc:Nat.ble (Nat.add len k) cap with
    | true =>
      rw[hc] at h12
      obtain⟨h13,h14⟩:=chk_inv (show kApLf lo zm nx K off k c rd id p s' off0 len cap kd sh v (kpath p v) from h12)
      rw[nd_iff,hN] at h13
      rw[fN_eq] at h14
      obtain⟨c',h15,h16⟩:=kcpy_s h14 hf fun i hi=>h5 i hi
      obtain⟨v',h17,h18⟩:=ksetP_s _ _ _ _ h15
      rw[fN_eq] at h17
      refine Out.up h17 (Nat.le_of_ble_eq_true h13.1) (yAppend_s (e:=⟨.sl id p s' off0 (len + k) (some cap),[(id,⟨kd,sh,v'.v⟩)],[],rd⟩) ho (hY _ ?_)) (EImp.refl _)
      rw[←hx]
      show (yApp et (.sl id p s' off0 len (some cap)) s k f rd (am zm) nx).is _
      simp only[yApp,am_some hb,KBlk.b,hf2]
      rw[if_pos ⟨by rw[isAl_eq]; exact q1,q2⟩,if_pos (show Nat.ble (len + k) cap=true from hc),setX_eq,cpX_eq,h18,h16]
      exact tstE h13.2
    | false =>
      rw[hc] at h12
      obtain⟨h13,h14⟩:=chk_inv (show kApLg et s z zm nx K off k c rd id off0 len (kpath p v) from h12)
      obtain⟨c',g,h14,h15,h16⟩:=kcat_s h14
      rw[fN_eq] at h14
      refine Out.new (v:=.row nx s (len + k)) h14 (yAppend_s (e:=⟨.row nx s (len + k),[],[⟨.row et,.arr (len + k) s,.arr (len + k) (appF len (fun i=>f0 (off0 + i)) f)⟩],id::rd⟩) ho (hY _ ?_)) ?_
      · rw[←hx]
        show (yApp et (.sl id p s' off0 len (some cap)) s k f rd (am zm) nx).is _
        simp only[yApp,am_some hb,KBlk.b,hf2]
        rw[if_pos ⟨by rw[isAl_eq]; exact q1,q2⟩,if_neg (show ¬ Nat.ble (len + k) cap=true by rw[show Nat.ble (len + k) cap=false from hc]; simp),appX_eq]
        exact tstE (by rw[Bool.and_eq_true]; exact⟨q3,h13⟩)
      · refine EImp.new (Imp.refl _) (.inr ⟨rfl,rfl,?_,fun h=>(by cases h)⟩)
        show Imp _ c'.v
        rw[h15]
        exact cpImp (h0:=fun i=>(kidx (off0 + i) (kpath p v)).v) (fun i hi=>by
          rw[h16 i hi]
          by_cases hl:i < len
          · rw[if_pos hl,if_pos hl]
          · rw[if_neg hl,if_neg hl,h5 _ (by omega)]) (fun i hi=>hf' _)
  · exact h8.elim
def cpS (P:Program) (t:TypeId):Option Nat:=match P.underlying t with
  | some (.slice et)=>match P.info? et with
    | some i=>some i.size
    | none=>none
  | _=>none
def kCpL (lo z:Nat) (zm:KZ) (nx:Nat) (K:KT) (y:KV) (id:Nat) (p:List Step) (e:Shape) (off len:Nat) (_:Option Nat):Prop :=
  oB zm id fun kd sh v=>fV (kpath p v) fun c0=>kSrcW e y zm fun e' offs k c rd=>chk (nd (Nat.ble lo id) (nd (isAl kd) (nd (e'.beq e) (nd (Nat.beq z e.size) (nd (pthOk p v) (arK c0)))))) 128
    (fN (min k len) fun cnt=>kcpy c0 off cnt c offs fun c'=>ksetP c' p v fun v'=>upB id kd sh v' zm fun zm=>K (.int .i64 (.ofNat cnt)) zm nx [id] rd)
def kCopy (lo:Nat) (P:Program) (t:TypeId) (x y:KV) (zm:KZ) (nx:Nat) (K:KT):Prop:=os 129 (fun z=>onSl (kCpL lo z zm nx K y) (BadN 130) x) (cpS P t)
theorem kCopy_s {t t':TypeId}{x y:Operand}(ho:o.op=.call ⟨.builtin .copy,#[x,y],#[t,t']⟩) (h:kCopy lo P t (kev τ x) (kev τ y) zm nx K):Out P B o τ lo zm nx K:=by
  have hx:=kev_v τ x
  have hy:=kev_v τ y
  obtain⟨z,h1,h2⟩:=os_inv h
  obtain⟨et,i,hu,hi,rfl⟩:∃ et i,P.underlying t=some (.slice et)∧P.info? et=some i∧z=i.size:=by
    unfold cpS at h1
    split at h1
    · split at h1
      · cases h1; exact⟨_,_,‹_›,‹_›,rfl⟩
      · cases h1
    · cases h1
  rcases onSl_inv h2 with ⟨id,p,e,off,len,cap,hp,h3⟩ | ⟨_,h3⟩
  · obtain⟨kd,sh,v,hb,h4⟩:=oB_inv h3
    rw[fV_eq] at h4
    obtain⟨e',offs,k,c,rd,f,h5,h6,h7⟩:=kSrcW_s h4
    obtain⟨h8,h9⟩:=chk_inv h5
    simp only[nd_iff] at h8
    obtain⟨q1,q2,q3,q4,hpo,q5⟩:=h8
    rw[fN_eq] at h9
    obtain⟨N,f0,hf,_⟩:=arK_s q5
    obtain⟨c',h10,h11⟩:=kcpy_s h9 hf fun i hi=>h7 i (by omega)
    obtain⟨v',h12,h13⟩:=ksetP_s _ _ _ _ h10
    rw[hp] at hx
    rw[hy] at h6
    rw[kpath_v p v hpo] at hf
    refine Out.up h12 (Nat.le_of_ble_eq_true q1) (yCopy_s (e:=⟨.int .i64 (min k len:Nat),[(id,⟨kd,sh,v'.v⟩)],[],rd⟩) ho ?_) (EImp.refl _)
    unfold yCopy
    rw[hu,←hx]
    simp only[hi,v_sl,am_some hb,KBlk.b,hf,h6]
    rw[if_pos ⟨by rw[isAl_eq]; exact q2,q3,beqE q4⟩,setX_eq,cpX_eq,h13,h11]
    rfl
  · exact h3.elim
end
end
end Go.K
namespace Go.K
open Go.Ab Go.RowKit Go.Y
noncomputable section
variable [KGl]
section
variable {P:Program}{B:Nat}{o:Oper}{τ:Nat→KV}{lo:Nat}{zm:KZ}{nx:Nat}{K:KT}
def mkS (P:Program) (t:TypeId):Option (TypeId×(Shape×KV)):=match P.underlying t with
  | some (.slice et)=>match kzero? P et,P.info? et with
    | some sz,some i=>if i.bytes≤1048576 then some (et,sz) else none
    | _,_=>none
  | _=>none
theorem mkS_s {t:TypeId}{et:TypeId}{s:Shape}{z:KV}(h:mkS P t=some (et,s,z)):P.underlying t=some (.slice et)∧zero? P et=some (s,z.v)∧∃ i,P.info? et=some i∧i.bytes≤1048576:=by
  unfold mkS at h
  split at h
  · rename_i e hu
    split at h
    · rename_i sz i hz hi
      split at h
      · rename_i hc
        simp only[Option.some.injEq,Prod.mk.injEq] at h
        obtain⟨rfl,rfl⟩:=h
        exact⟨hu,kzero?_s hz,i,hi,hc⟩
      · cases h
    · cases h
  · cases h
def kMkT (et:TypeId) (s:Shape) (z:KV) (same:Bool) (a b:Nat) (zm:KZ) (nx:Nat) (K:KT):Prop :=
  @Bool.rec (fun _=>Prop) (nwB (.row et) (.arr a s) (kzarr a z) zm nx fun zm nx'=>K (.row nx s a) zm nx' [] []) (nwB (.box et) (.arr b s) (kzarr b z) zm nx fun zm nx'=>K (.sl nx [] s 0 a (some b)) zm nx' [] []) same
def kMake (P:Program) (t:TypeId) (same:Bool) (l c:KV) (zm:KZ) (nx:Nat) (K:KT):Prop :=
  os 140 (pr fun et sz=>pr (fun s z=>onInt (fun _ a=>onInt (fun _ b=>cnd (mkB a b) (fN (natI a) fun a=>fN (natI b) fun b=>kMkT et s z same a b zm nx K)) (BadN 141) c) (BadN 142) l) sz) (mkS P t)
theorem kMake_s {t:TypeId}{l c:Operand}(ho:o.op=.makeSlice t l c) (h:kMake P t true (kev τ l) (kev τ c) zm nx K):Out P B o τ lo zm nx K:=by
  have hl:=kev_v τ l
  have hc:=kev_v τ c
  obtain⟨⟨et,s,z⟩,h1,h2⟩:=os_inv h
  obtain⟨hu,hz,i,hi,hb⟩:=mkS_s h1
  rcases onInt_inv (show onInt _ (BadN 142) (kev τ l) from h2) with ⟨_,a,ha,h3⟩ | ⟨_,h3⟩
  · rcases onInt_inv h3 with ⟨_,b,hb',h4⟩ | ⟨_,h4⟩
    · obtain⟨h5,h6⟩:=cnd_iff.1 h4
      rw[fN_eq,fN_eq,natI_eq,natI_eq] at h6
      rw[ha] at hl; rw[hb'] at hc
      have hY:∀ e,(RS.tst (mkB a b) e).is e:=fun e=>tstE h5
      refine Out.new (show nwB (.box et) (.arr b.toNat s) (kzarr b.toNat z) zm nx (fun zm nx'=>K (.sl nx [] s 0 a.toNat (some b.toNat)) zm nx' [] []) from h6)
        (yMk_s (e:=⟨.sl nx [] s 0 a.toNat (some b.toNat),[],[⟨.box et,.arr b.toNat s,.arr b.toNat fun _=>z.v⟩],[]⟩) ho ?_) (by rw[kzarr_v]; exact EImp.refl _)
      unfold yMk yMake
      simp only[hu,hz,hi,←hl,←hc,v_int]
      rw[if_pos hb]
      exact hY _
    · exact h4.elim
  · exact h3.elim
def kparts (st:Bool) (sh:Nat→Option Shape) (l:List (Nat×KV)):KV→(KV→Prop)→Prop:=@List.rec (Nat×KV) (fun _=>KV→(KV→Prop)→Prop) (fun v K=>K v)
  (fun x _ ih v K=>os 143 (fun s=>chk (kfits x.2 s) 144 (ksetP x.2 [bstep st x.1] v fun v=>ih v K)) (sh x.1)) l
theorem kparts_s {st:Bool}{sh:Nat→Option Shape}{s:Shape}{pl:Nat→Option (Nat×Nat)}(hsh:∀ i t,sh i=some t→∃ d,s.step (bstep st i)=some (d,t)∧(pl i==some (d,t.size))=true) :
    ∀(l:List (Nat×KV)) (v:KV) (K:KV→Prop),kparts st sh l v K→∃ v',K v'∧bok s st pl (l.map fun x=>(x.1,x.2.v))=true∧v'.v=bset st v.v (l.map fun x=>(x.1,x.2.v))
  | [],v,K,h=>⟨v,h,rfl,rfl⟩
  | x::l,v,K,h=>by
    obtain⟨t,h1,h2⟩:=os_inv (show os 143 (fun s=>chk (kfits x.2 s) 144 (ksetP x.2 [bstep st x.1] v fun v=>kparts st sh l v K)) (sh x.1) from h)
    obtain⟨h3,h4⟩:=chk_inv h2
    obtain⟨h5,h6⟩:=kfits_s h3
    obtain⟨v1,h7,h8⟩:=ksetP_s _ _ _ _ h4
    obtain⟨v',h9,h10,h11⟩:=kparts_s hsh l v1 K h7
    obtain⟨d,h12,h13⟩:=hsh _ _ h1
    refine⟨v',h9,?_,?_⟩
    · simp only[List.map_cons,bok,h12,h13,h5,h6,h10,Bool.and_self]
    · rw[h11,h8]; rfl
def bdS (P:Program) (t:TypeId):Option ((Shape×KV)×Bool):=match kzero? P t,places P t with
  | some sz,some (st,_)=>some (sz,st)
  | _,_=>none
def bpS (P:Program) (t:TypeId) (i:Nat):Option Shape:=match kzero? P t,places P t with
  | some (s,_),some (st,pl)=>match s.step (bstep st i) with
    | some (d,t)=>if (pl i==some (d,t.size))=true then some t else none
    | none=>none
  | _,_=>none
def kBuild (P:Program) (t:TypeId) (ps:List (Nat×KV)) (zm:KZ) (nx:Nat) (K:KT):Prop :=
  os 145 (pr fun sz st=>pr (fun _ z=>kparts st (bpS P t) ps z fun v=>fV v fun v=>K v zm nx [] []) sz) (bdS P t)
theorem map_ps {ps:List (Nat×Operand)}:(ps.map fun x=>(x.1,kev τ x.2)).map (fun x=>(x.1,x.2.v))=ps.map fun x=>(x.1,opv Gl.G (tv' τ) x.2):=by
  rw[List.map_map]
  exact List.map_congr_left fun x _=>by show (x.1,(kev τ x.2).v)=_; rw[kev_v]
theorem kBuild_s {t:TypeId}{ps:Array (Nat×Operand)}(ho:o.op=.build t ps) (h:kBuild P t (ps.toList.map fun x=>(x.1,kev τ x.2)) zm nx K):Out P B o τ lo zm nx K:=by
  obtain⟨⟨⟨s,z⟩,st⟩,h1,h2⟩:=os_inv h
  have h3:kparts st (bpS P t) (ps.toList.map fun x=>(x.1,kev τ x.2)) z (fun v=>fV v fun v=>K v zm nx [] []):=h2
  unfold bdS at h1
  split at h1
  · rename_i sz st' pl hz hp
    simp only[Option.some.injEq,Prod.mk.injEq] at h1
    obtain⟨rfl,rfl⟩:=h1
    obtain⟨v',h4,h5,h6⟩:=kparts_s (s:=s) (pl:=pl) (fun i t' hi=>by
      unfold bpS at hi
      rw[hz,hp] at hi
      simp only at hi
      split at hi
      · rename_i d t2 hd
        split at hi
        · rename_i hc; cases hi; exact⟨d,hd,hc⟩
        · cases hi
      · cases hi) _ _ _ h3
    rw[fV_eq] at h4
    rw[map_ps] at h5 h6
    refine Out.pure h4 (yBuild_s (e:=pureE v'.v) ho ?_) (EImp.refl _)
    unfold yBuild
    rw[kzero?_s hz,hp]
    simp only
    rw[if_pos h5,bsetX_eq,h6]; rfl
  · cases h1
def bsS (P:Program) (t:TypeId):Option (TypeId×(Shape×KV)):=match P.underlying t with
  | some (.slice et)=>match kzero? P et with
    | some sz=>some (et,sz)
    | none=>none
  | _=>none
def bsB (s:Shape) (len:Nat):Bool:=nd (Nat.ble (Nat.mul len s.size) 16777216) (nd (Nat.blt 0 (Nat.mul len s.size)) true)
def bsP (s:Shape) (len i:Nat):Option Shape:=@Bool.rec (fun _=>Option Shape) none (some s) (Nat.blt i len)
def kBS (P:Program) (t:TypeId) (len:Nat) (ps:List (Nat×KV)) (zm:KZ) (nx:Nat) (K:KT):Prop :=
  os 146 (pr fun et sz=>pr (fun s z=>@Bool.rec (fun _=>Prop) (chk (bsB s len) 147 (kparts false (bsP s len) ps (kzarr len z) fun v=>nwB (.row et) (.arr len s) v zm nx fun zm nx'=>K (.row nx s len) zm nx' [] []))
    (nwB (.row et) (.arr 0 s) (kzarr 0 z) zm nx fun zm nx'=>K (.row nx s 0) zm nx' [] []) (nd (Nat.beq len 0) (ps.isEmpty))) sz) (bsS P t)
theorem kBS_s {t:TypeId}{len:Nat}{ps:Array (Nat×Operand)}(ho:o.op=.buildSlice t len ps) (h:kBS P t len (ps.toList.map fun x=>(x.1,kev τ x.2)) zm nx K):Out P B o τ lo zm nx K:=by
  obtain⟨⟨et,s,z⟩,h1,h2⟩:=os_inv h
  obtain⟨hu,hz⟩:P.underlying t=some (.slice et)∧zero? P et=some (s,z.v):=by
    unfold bsS at h1
    split at h1
    · split at h1
      · simp only[Option.some.injEq,Prod.mk.injEq] at h1
        obtain⟨rfl,rfl⟩:=h1
        exact⟨‹_›,kzero?_s ‹_›⟩
      · cases h1
    · cases h1
  have h3:@Bool.rec (fun _=>Prop) (chk (bsB s len) 147 (kparts false (bsP s len) (ps.toList.map fun x=>(x.1,kev τ x.2)) (kzarr len z) fun v=>nwB (.row et) (.arr len s) v zm nx fun zm nx'=>K (.row nx s len) zm nx' [] []))
    (nwB (.row et) (.arr 0 s) (kzarr 0 z) zm nx fun zm nx'=>K (.row nx s 0) zm nx' [] []) (nd (Nat.beq len 0) (ps.toList.map fun x=>(x.1,kev τ x.2)).isEmpty):=h2
  cases hb:nd (Nat.beq len 0) (ps.toList.map fun x=>(x.1,kev τ x.2)).isEmpty with
  | true =>
    rw[hb] at h3
    rw[nd_iff] at hb
    obtain⟨q1,q2⟩:=hb
    obtain rfl:=beqE q1
    have q3:ps.toList=[]:=by simpa using q2
    refine Out.new (show nwB (.row et) (.arr 0 s) (kzarr 0 z) zm nx (fun zm nx'=>K (.row nx s 0) zm nx' [] []) from h3) (yBS_s (e:=⟨.row nx s 0,[],[⟨.row et,.arr 0 s,.arr 0 fun _=>z.v⟩],[]⟩) ho ?_) (by rw[kzarr_v]; exact EImp.refl _)
    rw[q3]
    show (match P.underlying t with | some (.slice et)=>(match zero? P et with | some (s,z)=>RS.ok ⟨.row nx s 0,[],[⟨.row et,.arr 0 s,.arr 0 fun _=>z⟩],[]⟩ | none=>RS.bad) | _=>RS.bad).is _
    rw[hu]; simp only; rw[hz]; rfl
  | false =>
    rw[hb] at h3
    obtain⟨h4,h5⟩:=chk_inv (show chk (bsB s len) 147 _ from h3)
    obtain⟨v',h6,h7,h8⟩:=kparts_s (s:=.arr len s) (pl:=fun i=>some (i * s.size,s.size)) (fun i t' hi=>by
      unfold bsP at hi
      cases hlt:Nat.blt i len with
      | false=>rw[hlt] at hi; cases hi
      | true =>
        rw[hlt] at hi
        have:=Option.some.inj hi
        subst this
        exact⟨i * s.size,by show (if i < len then _ else _)=_; rw[if_pos (nblt.1 hlt)],by simp⟩) _ _ _ h5
    rw[map_ps] at h7 h8
    unfold bsB at h4
    simp only[nd_iff] at h4
    have q1:len * s.size≤16777216:=Nat.le_of_ble_eq_true h4.1
    have q2:0 < len * s.size:=nblt.1 h4.2.1
    refine Out.new h6 (yBS_s (e:=⟨.row nx s len,[],[⟨.row et,.arr len s,v'.v⟩],[]⟩) ho ?_) (EImp.refl _)
    have hne:yBS P t len (ps.toList.map fun x=>(x.1,opv Gl.G (tv' τ) x.2)) nx=yBuildSlice P t len (ps.toList.map fun x=>(x.1,opv Gl.G (tv' τ) x.2)) nx:=by
      unfold yBS
      split
      · omega
      · rfl
    rw[hne]
    unfold yBuildSlice
    simp only[hu,hz]
    rw[if_pos (by simp only[Bool.and_eq_true,decide_eq_true_eq]; exact⟨⟨by omega,by omega⟩,h7⟩),bsetX_eq,←kzarr_v,←h8]; rfl
inductive IvS where
  | str
  | arr (n:Nat) (s:Shape)
  | bad
def ivS (P:Program) (t:TypeId):IvS:=match P.underlying t with
  | some .string=>.str
  | some (.array n el)=>match ldS P el with
    | some s=>.arr n s
    | none=>.bad
  | _=>.bad
def kIndexV (P:Program) (t:TypeId) (x ix:KV) (zm:KZ) (nx:Nat) (K:KT):Prop :=
  onInt (fun _ j=>@IvS.rec (fun _=>Prop) (onStr (fun n s=>cnd (ixB j n) (fI (pkg .u8 s (natI j)) fun r=>K (.int .u8 r) zm nx [] [])) (BadN 150) x)
    (fun n s=>chk (arN x n) 151 (cnd (ixB j n) (fV (kidx (natI j) x) fun v=>chk (kfits v s) 152 (K v zm nx [] [])))) (BadN 153) (ivS P t)) (BadN 154) ix
theorem kIndexV_s {t:TypeId}{x ix:Operand}(ho:o.op=.index t x ix) (h:kIndexV P t (kev τ x) (kev τ ix) zm nx K):Out P B o τ lo zm nx K:=by
  have hx:=kev_v τ x
  have hi:=kev_v τ ix
  rcases onInt_inv h with ⟨k,j,hj,h1⟩ | ⟨_,h1⟩
  · rw[hj] at hi
    unfold ivS at h1
    split at h1
    · rename_i hu
      rcases onStr_inv (show onStr (fun n s=>cnd (ixB j n) (fI (pkg .u8 s (natI j)) fun r=>K (.int .u8 r) zm nx [] [])) (BadN 150) (kev τ x) from h1) with ⟨n,s,hs,h2⟩ | ⟨_,h2⟩
      · obtain⟨h3,h4⟩:=cnd_iff.1 h2
        rw[fI_eq,natI_eq] at h4
        rw[hs] at hx
        have hsz:(bytesOf n s).size=n:=by show ((List.range n).map _).length=n; simp
        have hlt:j.toNat < n:=by
          unfold ixB at h3
          simp only[Bool.and_eq_true,leI_eq,ltI_eq,decide_eq_true_eq,Int.ofNat_eq_natCast] at h3
          omega
        refine Out.pure h4 (yIndexV_s (e:=pureE (byteAt (bytesOf n s) j.toNat)) ho ?_) ?_
        · unfold yIndexV
          rw[←hi,←hx]
          simp only[v_int,v_str,hu,hsz]
          exact tstE h3
        · refine EImp.val ?_
          have:byteAt (bytesOf n s) j.toNat=.int .u8 (pkg .u8 s j.toNat):=by
            show V.int .u8 ((((List.range n).map fun i=>UInt8.ofNat (pkr .u8 s i)).getD j.toNat 0).toNat:Int)=.int .u8 (.ofNat (pkr .u8 s j.toNat))
            rw[List.getD_eq_getElem?_getD,List.getElem?_map,List.getElem?_range hlt,Option.map_some,Option.getD_some,UInt8.toNat_ofNat']
            have:=pkr_lt .u8 s j.toNat
            simp only[mdl] at this
            rw[Nat.mod_eq_of_lt (by omega)]; rfl
          rw[this]; exact Imp.refl _
      · exact h2.elim
    · rename_i n el hu
      split at h1
      · rename_i s hl
        obtain⟨hs,d,hd⟩:=ldS_s hl
        obtain⟨h2,h3⟩:=chk_inv (show chk (arN (kev τ x) n) 151 _ from h1)
        obtain⟨h4,h5⟩:=cnd_iff.1 h3
        rw[fV_eq,natI_eq] at h5
        obtain⟨h6,h7⟩:=chk_inv h5
        obtain⟨f,hf⟩:=arN_s h2
        have hk:(kidx j.toNat (kev τ x)).v=f j.toNat:=by rw[kidx_v,hf]; rfl
        refine Out.pure h7 (yIndexV_s (e:=pureE (f j.toNat)) ho ?_) (by rw[hk]; exact EImp.refl _)
        unfold yIndexV
        rw[←hi,←hx,hf]
        simp only[v_int,hu,hs,hd,if_true]
        have h8:=(kfits_s h6).1
        rw[hk] at h8
        exact tstE (by rw[h4,h8]; rfl)
      · exact (show BadN 153 from h1).elim
    · exact (show BadN 153 from h1).elim
  · exact h1.elim
def fvS (P:Program) (t:TypeId) (k:Nat):Option Shape:=match P.underlying t,tshape P t with
  | some (.struct fs),some s=>match fs[k]?,s.fld k with
    | some fd,some (d,s')=>match tshape P fd.type,P.underlying fd.type with
      | some s2,some _=>if d=fd.offset∧s2.beq s'=true then some s else none
      | _,_=>none
    | _,_=>none
  | _,_=>none
def kFieldV (P:Program) (t:TypeId) (x:KV) (k:Nat) (zm:KZ) (nx:Nat) (K:KT):Prop:=os 155 (fun s=>chk (nd (isAggK x) (kfits x s)) 156 (fV (kfld k x) fun v=>K v zm nx [] [])) (fvS P t k)
theorem kFieldV_s {t:TypeId}{x:Operand}{k:Nat}(ho:o.op=.field t x k) (h:kFieldV P t (kev τ x) k zm nx K):Out P B o τ lo zm nx K:=by
  have hx:=kev_v τ x
  obtain⟨s,h1,h2⟩:=os_inv h
  obtain⟨h3,h4⟩:=chk_inv h2
  rw[fV_eq] at h4
  rw[nd_iff] at h3
  refine Out.pure h4 (yFieldV_s (e:=pureE ((kev τ x).v.fld k)) ho ?_) (by rw[kfld_v]; exact EImp.refl _)
  unfold fvS at h1
  split at h1
  · rename_i fs s' hu hs
    split at h1
    · rename_i fd d s2 hf hd
      split at h1
      · rename_i s3 _ hs3 hu3
        split at h1
        · rename_i hc
          cases h1
          unfold yFieldV
          rw[←hx]
          simp only[hu,hs,hf,hd,hs3,hu3]
          rw[if_pos ⟨isAggK_s h3.1,(kfits_s h3.2).1,hc.1,hc.2⟩]; rfl
        · cases h1
      · cases h1
    · cases h1
  · cases h1
inductive CvS where
  | num (k:IntKind)
  | str
  | toB
  | toS
  | mk
  | bad
def cvS (P:Program) (src dst:TypeId):CvS:=match P.underlying dst,P.underlying src with
  | some (.int k),some _=>.num k
  | some .string,some .string=>.str
  | some (.slice e),some .string=>match P.underlying e with
    | some (.int .u8)=>.toB
    | _=>.bad
  | some .string,some (.slice e)=>match P.underlying e with
    | some (.int .u8)=>.toS
    | _=>.bad
  | some (.slice e),some (.slice _)=>if dst=src then match P.underlying e with
    | some (.int .u8)=>.mk
    | _=>.bad
    else .bad
  | _,_=>.bad
def isU8 (x:KV):Bool:=match x with
  | .int k _=>ikEq k .u8
  | _=>false
def intOf (v:V):Int:=match v with
  | .int _ a=>a
  | _=>0
omit [KGl] in
theorem isU8_s {x:KV}(h:isU8 x=true):x.v=.int .u8 (intOf x.v):=by
  unfold isU8 at h
  split at h
  · rw[ikEq_eq h]; rfl
  · cases h
def kMk (lo:Nat) (zm:KZ) (nx:Nat) (K:KT) (id:Nat) (e:Shape) (len:Nat):Prop :=
  oB zm id fun kd sh v=>@Kind.rec (fun _=>Prop) (fun _=>BadN 214) (fun _=>chk (nd (isScB e) (nd (Nat.ble lo id) (Nat.blt 0 len))) 215 (onPk (fun k n y=>chk (ikEq k .u8) 216 (upB id .dead sh .unk zm fun zm=>K (.ro true false .sc 0 len (.pk .u8 n y)) zm nx [id] [])) (onAr (fun n d t=>chk (allB (fun i=>isU8 (kidx i (.ar n d t))) len) 217 (upB id .dead sh .unk zm fun zm=>K (.ro true false .sc 0 len (.ar n d t)) zm nx [id] [])) (BadN 217) v) v)) (BadN 218) (fun _ _ _ _=>BadN 218) (BadN 218) kd
def kToS (zm:KZ) (nx:Nat) (K:KT) (e:Shape) (off len:Nat) (c:KV) (rd:List Nat):Prop :=
  chk (isScB e) 157 (@Bool.rec (fun _=>Prop) (onPk (fun k _ x=>chk (ikEq k .u8) 158 (fN (pkx .u8 x off len) fun y=>K (.str len y) zm nx [] rd)) (BadN 159) c) (K (.str 0 0) zm nx [] rd) (Nat.beq len 0))
def kConv (lo:Nat) (P:Program) (src dst:TypeId) (x:KV) (zm:KZ) (nx:Nat) (K:KT):Prop :=
  @CvS.rec (fun _=>Prop) (fun k=>onInt (fun _ a=>@Bool.rec (fun _=>Prop) (wrpP k a fun r=>K (.int k r) zm nx [] []) (fI (wrpI k a) fun r=>K (.int k r) zm nx [] []) Gl.cl) (BadN 160) x) (onStr (fun _ _=>K x zm nx [] []) (BadN 161) x)
    (onStr (fun n s=>K (.ro true false .sc 0 n (.pk .u8 n s)) zm nx [] []) (BadN 162) x) (kSrcW .sc x zm (kToS zm nx K)) (onRow (kMk lo zm nx K) (BadN 219) x) (BadN 163) (cvS P src dst)
omit [KGl] in
theorem u8s_of {f:Nat→V}{g:Nat→Int}:∀(c i:Nat),(∀ j,j < c→f (i + j)=.int .u8 (g (i + j)))→u8s f c i=some ((List.range c).map fun j=>g (i + j))
  | 0,i,h=>rfl
  | c + 1,i,h=>by
    have h0:=h 0 (by omega)
    rw[Nat.add_zero] at h0
    have h1:=u8s_of c (i + 1) fun j hj=>by rw[show i + 1 + j=i + (j + 1) by omega]; exact h (j + 1) (by omega)
    simp only[u8s,h0,h1]
    rw[List.range_succ_eq_map,List.map_cons,List.map_map]
    simp only[Nat.add_zero]
    congr 2
    refine List.map_congr_left fun j _=>?_
    show g (i + 1 + j)=g (i + (j + 1))
    congr 1; omega
theorem kConv_s {src dst:TypeId}{x:Operand}(ho:o.op=.convert src dst x) (h:kConv lo P src dst (kev τ x) zm nx K):Out P B o τ lo zm nx K:=by
  have hx:=kev_v τ x
  unfold kConv cvS at h
  split at h
  · rename_i k d hd hs
    rcases onInt_inv (show onInt (fun _ a=>@Bool.rec (fun _=>Prop) (wrpP k a fun r=>K (.int k r) zm nx [] []) (fI (wrpI k a) fun r=>K (.int k r) zm nx [] []) Gl.cl) (BadN 160) (kev τ x) from h) with ⟨k',a,ha,h1⟩ | ⟨_,h1⟩
    · have h1:K (.int k (wrpI k a)) zm nx [] []:=by
        cases hc:(Gl.cl:Bool) with
        | false=>rw[hc] at h1; exact wrpP_s (K:=fun r=>K (.int k r) zm nx [] []) h1
        | true=>rw[hc] at h1; have h1:fI (wrpI k a) fun r=>K (.int k r) zm nx [] []:=h1; rwa [fI_eq] at h1
      rw[ha] at hx
      refine Out.pure h1 (yConvA_s (e:=pureE (.int k (wrpI k a))) ho ?_) (EImp.refl _)
      rw[←hx]
      show (yConv P src dst (.int k' a)).is _
      unfold yConv
      rw[hd,hs]; rfl
    · exact h1.elim
  · rename_i hd hs
    rcases onStr_inv (show onStr (fun _ _=>K (kev τ x) zm nx [] []) (BadN 161) (kev τ x) from h) with ⟨n,s,ha,h1⟩ | ⟨_,h1⟩
    · refine Out.pure h1 (yConvA_s (e:=pureE (kev τ x).v) ho ?_) (EImp.refl _)
      rw[←hx,ha]
      show (yConvS P src dst (.str (bytesOf n s)) (am zm)).is _
      unfold yConvS
      rw[hd,hs]; rfl
    · exact h1.elim
  · rename_i e hd hs
    split at h
    · rename_i he
      rcases onStr_inv (show onStr (fun n s=>K (.ro true false .sc 0 n (.pk .u8 n s)) zm nx [] []) (BadN 162) (kev τ x) from h) with ⟨n,s,ha,h1⟩ | ⟨_,h1⟩
      · rw[ha] at hx
        have hsz:(bytesOf n s).size=n:=by show ((List.range n).map _).length=n; simp
        refine Out.pure h1 (yConvA_s (e:=pureE (.ro true false .sc (bytesOf n s).size (byteAt (bytesOf n s)))) ho ?_) ?_
        · rw[←hx]
          show (yConvS P src dst (.str (bytesOf n s)) (am zm)).is _
          unfold yConvS
          rw[hd,hs]
          simp only[he]; rfl
        · refine EImp.val ?_
          rw[hsz,v_ro]
          refine Imp.roE fun i hi=>?_
          show V.int .u8 ((((List.range n).map fun i=>UInt8.ofNat (pkr .u8 s i)).getD i 0).toNat:Int)=.int .u8 (.ofNat (pkr .u8 s (0 + i)))
          rw[List.getD_eq_getElem?_getD,List.getElem?_map,List.getElem?_range hi,Option.map_some,Option.getD_some,UInt8.toNat_ofNat',Nat.zero_add]
          have:=pkr_lt .u8 s i
          simp only[mdl] at this
          rw[Nat.mod_eq_of_lt (by omega)]; rfl
      · exact h1.elim
    · exact (show BadN 163 from h).elim
  · rename_i e hd hs
    split at h
    · rename_i he
      obtain⟨e',off,len,c,rd,f,h1,h2,h3⟩:=kSrcW_s (show kSrcW .sc (kev τ x) zm (kToS zm nx K) from h)
      obtain⟨h4,h5⟩:=chk_inv h1
      obtain rfl:=isScB_s h4
      have hnint:isIntV (kev τ x).v=false:=by
        unfold srcW at h2
        split at h2
        · rename_i hv; rw[hv]; rfl
        unfold srcV at h2
        split at h2
        · rename_i hv; rw[hv]; rfl
        · rename_i hv; rw[hv]; rfl
        · rename_i hv; rw[hv]; rfl
        · cases h2
      have fin:∀(y:Nat) (g:Nat→Int),K (.str len y) zm nx [] rd→(∀ j,j < len→f j=.int .u8 (g j))→(∀ j,j < len→g j=.ofNat (pkr .u8 y j))→Out P B o τ lo zm nx K:=by
        intro y g hk hg hgy
        have hu:=u8s_of (f:=f) (g:=g) len 0 (fun j hj=>by rw[Nat.zero_add]; exact hg j hj)
        refine Out.pure hk (yConvA_s (e:=⟨.str (strOfNums ((List.range len).map fun j=>g (0 + j))),[],[],rd⟩) ho ?_) ?_
        · unfold yConvA
          rw[←hx,hnint]
          show (yConvS P src dst (kev τ x).v (am zm)).is _
          unfold yConvS
          rw[hs,hd]
          simp only[he,h2,hu]; rfl
        · refine EImp.val ?_
          have:strOfNums ((List.range len).map fun j=>g (0 + j))=bytesOf len y:=by
            unfold strOfNums bytesOf
            congr 2
            rw[List.map_map]
            refine List.map_congr_left fun j hj=>?_
            rw[List.mem_range] at hj
            show UInt8.ofNat (g (0 + j)).toNat=_
            rw[Nat.zero_add,hgy j hj]; rfl
          rw[this]; exact Imp.refl _
      cases hl:Nat.beq len 0 with
      | true =>
        obtain rfl:=beqE hl
        exact fin 0 (fun _=>0) h5 (fun j hj=>by omega) (fun j hj=>by omega)
      | false =>
        rw[hl] at h5
        rcases onPk_inv (show onPk (fun k _ x=>chk (ikEq k .u8) 158 (fN (pkx .u8 x off len) fun y=>K (.str len y) zm nx [] rd)) (BadN 159) c from h5) with ⟨k,n,y,rfl,h6⟩ | ⟨_,h6⟩
        · obtain⟨h7,h8⟩:=chk_inv h6
          obtain rfl:=ikEq_eq h7
          rw[fN_eq] at h8
          refine fin _ (fun j=>.ofNat (pkr .u8 y (off + j))) h8 (fun j hj=>?_) fun j hj=>by rw[pkr_pkx hj]
          rw[h3 j hj,kidx_v]; rfl
        · exact h6.elim
    · exact (show BadN 163 from h).elim
  · rename_i e e2 hd hs
    split at h
    · rename_i heq
      subst heq
      split at h
      · rename_i he
        rcases onRow_inv (show onRow (kMk lo zm nx K) (BadN 219) (kev τ x) from h) with ⟨id,e',len,ha,h1⟩ | ⟨_,h1⟩
        · obtain⟨kd,sh,v,hb,h2⟩:=oB_inv h1
          rw[ha] at hx
          cases kd with
          | box=>exact (show BadN 214 from h2).elim
          | dead=>exact (show BadN 218 from h2).elim
          | lp k ps x y=>exact (show BadN 218 from h2).elim
          | mp=>exact (show BadN 218 from h2).elim
          | row et =>
            obtain⟨h3,h4⟩:=chk_inv h2
            simp only[nd_iff] at h3
            obtain⟨q1,q2,q3⟩:=h3
            obtain rfl:=isScB_s q1
            rcases onPk_inv h4 with ⟨k,n,y,rfl,h5⟩ | ⟨_,h5⟩
            · obtain⟨h6,h7⟩:=chk_inv h5
              obtain rfl:=ikEq_eq h6
              have hu:=u8s_of (f:=fun i=>V.int .u8 (pkg .u8 y i)) (g:=fun i=>pkg .u8 y i) len 0 (fun j hj=>rfl)
              refine Out.up h7 (Nat.le_of_ble_eq_true q2) (yConvA_s (e:=⟨.ro true false .sc len fun i=>V.int .u8 (dec .u8 (pkr .u8 y i)),[(id,⟨.dead,sh,.unk⟩)],[],[]⟩) ho ?_) ?_
              · rw[←hx]
                show (yConvS P _ _ (.row id .sc len) (am zm)).is _
                have he2:e2=e:=by rw[hd] at hs; cases hs; rfl
                subst he2
                unfold yConvS
                rw[hd]
                simp only[if_true,he,am_some hb,KBlk.b,v_pk]
                rw[hu]
                simp only[q3,if_true]
                rfl
              · refine EImp.up1 ?_ (BImp.refl _)
                rw[v_ro]
                refine Imp.roE fun i hi=>?_
                show _=V.int .u8 (dec .u8 (pkr .u8 y (0 + i)))
                rw[Nat.zero_add]
            · rcases onAr_inv h5 with ⟨n,d,t,rfl,h5⟩ | ⟨_,h5⟩
              · obtain⟨h6,h7⟩:=chk_inv h5
                have hu:=u8s_of (f:=fun i=>t.atv (enc i) d.v) (g:=fun i=>intOf (t.atv (enc i) d.v)) len 0 (fun j hj=>by
                  rw[Nat.zero_add]
                  have h8:=isU8_s (allB_s h6 j hj)
                  rw[show (kidx j (.ar n d t)).v=t.atv (enc j) d.v from kgetE_v d j t] at h8
                  exact h8)
                refine Out.up h7 (Nat.le_of_ble_eq_true q2) (yConvA_s (e:=⟨.ro true false .sc len fun i=>t.atv (enc i) d.v,[(id,⟨.dead,sh,.unk⟩)],[],[]⟩) ho ?_) ?_
                · rw[←hx]
                  show (yConvS P _ _ (.row id .sc len) (am zm)).is _
                  have he2:e2=e:=by rw[hd] at hs; cases hs; rfl
                  subst he2
                  unfold yConvS
                  rw[hd]
                  simp only[if_true,he,am_some hb,KBlk.b,v_ar]
                  rw[hu]
                  simp only[q3,if_true]
                  rfl
                · refine EImp.up1 ?_ (BImp.refl _)
                  rw[v_ro]
                  refine Imp.roE fun i hi=>?_
                  rw[Nat.zero_add]
                  rfl
              · exact h5.elim
        · exact h1.elim
      · exact (show BadN 163 from h).elim
    · exact (show BadN 163 from h).elim
  · exact (show BadN 163 from h).elim
def arS (P:Program) (t:TypeId):Option Nat:=match P.underlying t with
  | some (.array n _)=>some n
  | _=>none
def kArrC (n off:Nat) (c:KV) (K:KV→Prop):Prop:=onPk (fun k _ x=>fN (pkx k x off n) fun x=>K (.pk k n x)) (onAr (fun _ d t=>chk (Nat.beq off 0) 164 (K (.ar n d t))) (BadN 165) c) c
def kArr (P:Program) (t:TypeId) (x:KV) (zm:KZ) (nx:Nat) (K:KT):Prop:=os 166 (fun n=>onRo (fun u _ e off len c=>cnd (Nat.blt 0 n&&Nat.ble n len) (kArrC n off c fun c=>K (.ref u (.arr n e) c) zm nx [] [])) (onSl (fun id p e off len _=>cnd (Nat.blt 0 n&&Nat.ble n len) (snocK p (.sub off n) fun p=>K (.ptr id p (.arr n e)) zm nx [] [])) (BadN 167) x) x) (arS P t)
theorem kArr_s {t:TypeId}{x:Operand}(ho:o.op=.sliceToArrayPointer t x) (h:kArr P t (kev τ x) zm nx K):Out P B o τ lo zm nx K:=by
  have hx:=kev_v τ x
  obtain⟨n,h1,h2⟩:=os_inv h
  obtain⟨el,hu⟩:∃ el,P.underlying t=some (.array n el):=by
    unfold arS at h1
    split at h1
    · cases h1; exact⟨_,‹_›⟩
    · cases h1
  rcases onRo_inv h2 with ⟨u,cl,e,off,len,c,hp,h3⟩ | ⟨_,h3⟩
  · obtain⟨h4,h5⟩:=cnd_iff.1 h3
    rw[hp] at hx
    have fin:∀ c':KV,K (.ref u (.arr n e) c') zm nx [] []→Imp (.arr n fun i=>c.v.step (.idx (off + i))) c'.v→Out P B o τ lo zm nx K:=fun c' hk hi=>by
      refine Out.pure hk (yArr_s (e:=pureE (.ref u (.arr n e) (.arr n fun i=>c.v.step (.idx (off + i))))) ho ?_) (EImp.val (Imp.refE hi))
      unfold yArr
      rw[hu,←hx]
      exact tstE h4
    rcases onPk_inv h5 with ⟨k,m,y,rfl,h6⟩ | ⟨_,h6⟩
    · rw[fN_eq] at h6
      refine fin _ h6 (Imp.arrE fun i hi=>?_)
      show V.int k (dec k (pkr k y (off + i)))=V.int k (dec k (pkr k _ i))
      rw[pkr_pkx hi]
    · rcases onAr_inv h6 with ⟨m,d,t',rfl,h7⟩ | ⟨_,h7⟩
      · obtain⟨h8,h9⟩:=chk_inv h7
        obtain rfl:=beqE h8
        exact fin _ h9 (Imp.arrE fun i hi=>by rw[Nat.zero_add]; rfl)
      · exact h7.elim
  rcases onSl_inv h3 with ⟨id,p,e,off,len,cap,hp,h4⟩ | ⟨_,h3⟩
  · obtain⟨h5,h6⟩:=cnd_iff.1 h4
    rw[snocK_eq] at h6
    rw[hp] at hx
    rw[Bool.and_eq_true,Nat.blt_eq,Nat.ble_eq] at h5
    exact Out.pure h6 ⟨sem_arr_sl (ρ:=opv Gl.G (tv' τ)) ho hx.symm hu h5.1 h5.2,UpIn.nil⟩ (EImp.refl _)
  · exact h3.elim
end
end
end Go.K
