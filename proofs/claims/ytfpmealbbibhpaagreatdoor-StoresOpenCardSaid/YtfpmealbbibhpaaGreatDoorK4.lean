/- Single operations: memory, addresses, numbers. No condition. Single operations: numbers, comparisons. No condition. Single operations: parts, lengths, slices, conversions. No condition. Single operations: values of interfaces. No condition. -/
import Derived.Test.YtfpmealbbibhpaaGreatDoorK2a
set_option linter.unusedVariables false
set_option linter.unusedSimpArgs false
namespace Go.K
open Go.Ab Go.RowKit Go.Y
noncomputable section
variable [KGl]
def kzarr (n:Nat) (z:KV):KV:=match z with
  | .int k a=>bif nd Gl.cl (eqI a 0) then .pk k n 0 else .ar n z .te
  | z=>.ar n z .te
theorem kzarr_v (n:Nat) (z:KV):(kzarr n z).v=.arr n fun _=>z.v:=by
  unfold kzarr
  split
  · rename_i k a
    cases h:nd Gl.cl (eqI a 0) with
    | false=>rfl
    | true =>
      have h:=(nd_iff.1 h).2
      rw[eqI_eq] at h
      obtain rfl:a=0:=by simpa using h
      show V.arr n (fun i=>.int k (pkg k 0 i))=_
      congr 1; funext i; rw[pkg_zero]; rfl
  · rfl
def kztree (P:Program):Nat→TypeId→KV
  | 0,_=>.unk
  | d + 1,t=>match P.underlying t with
    | some (.struct fs)=>fs.toList.foldr (fun f acc=>.cons (kztree P d f.type) acc) .nl
    | some (.array n e)=>kzarr n (kztree P d e)
    | _=>match P.info? t with
      | some i=>match i.zero with
        | some z=>kofVal z
        | none=>.unk
      | none=>.unk
theorem kztree_v (P:Program):∀(d:Nat) (t:TypeId),(kztree P d t).v=ztree P d t
  | 0,_=>rfl
  | d + 1,t=>by
    have ih:=kztree_v P d
    unfold kztree ztree
    cases hu:P.underlying t with
    | none =>
      simp only
      cases P.info? t with
      | none=>rfl
      | some i =>
        simp only
        cases i.zero with
        | none=>rfl
        | some z=>exact kofVal_v z
    | some x =>
      cases x<;>simp only
      case struct fs =>
        generalize fs.toList=l
        induction l with
        | nil=>rfl
        | cons f l ihl=>simp only[List.foldr_cons,v_cons,ih,ihl]
      case array n e=>rw[kzarr_v,ih]
      all_goals
        cases P.info? t with
        | none=>rfl
        | some i =>
          simp only
          cases i.zero with
          | none=>rfl
          | some z=>exact kofVal_v z
def kzero? (P:Program) (t:TypeId):Option (Shape×KV):=match zero? P t with
  | some (s,_)=>some (s,kztree P 12 t)
  | none=>none
theorem kzero?_s {P:Program}{t:TypeId}{s:Shape}{z:KV}(h:kzero? P t=some (s,z)):zero? P t=some (s,z.v):=by
  unfold kzero? at h
  split at h
  · rename_i s' z' hz
    simp only[Option.some.injEq,Prod.mk.injEq] at h
    obtain⟨rfl,rfl⟩:=h
    rw[hz,kztree_v]
    unfold zero? at hz
    split at hz
    · split at hz
      · split at hz
        · simp only[Option.some.injEq,Prod.mk.injEq] at hz; rw[hz.2]
        · cases hz
      · cases hz
    · cases hz
  · cases h
def pr {α β:Type}(f:α→β→Prop) (x:α×β):Prop:=@Prod.rec α β (fun _=>Prop) f x
omit [KGl] in
theorem pr_inv {α β:Type}{f:α→β→Prop}{x:α×β}(h:pr f x):f x.1 x.2:=h
section
variable {P:Program}{B:Nat}{o:Oper}{τ:Nat→KV}{lo:Nat}{zm:KZ}{nx:Nat}{K:KT}
def kAlloc (P:Program) (t:TypeId) (zm:KZ) (nx:Nat) (K:KT):Prop:=os 30 (pr fun s z=>nwB (.box t) s z zm nx fun zm nx'=>K (.ptr nx [] s) zm nx' [] []) (kzero? P t)
theorem kAlloc_s {t:TypeId}(ho:o.op=.alloc t) (h:kAlloc P t zm nx K):Out P B o τ lo zm nx K:=by
  obtain⟨⟨s,z⟩,h1,h2⟩:=os_inv h
  have hz:=kzero?_s h1
  exact Out.new (v:=.ptr nx [] s) h2 (yAlloc_s (e:=⟨.ptr nx [] s,[],[⟨.box t,s,z.v⟩],[]⟩) ho (by unfold yAlloc; rw[hz]; rfl)) (EImp.refl _)
def kBox (P:Program) (t:TypeId) (x:KV) (zm:KZ) (nx:Nat) (K:KT):Prop:=os 31 (fun s=>chk (kfits x s) 32 (nwB (.box t) s x zm nx fun zm nx'=>K (.ptr nx [] s) zm nx' [] [])) (tshape P t)
theorem kBox_s {t:TypeId}{x:Operand}(ho:o.op=.box t x) (h:kBox P t (kev τ x) zm nx K):Out P B o τ lo zm nx K:=by
  obtain⟨s,h1,h2⟩:=os_inv h
  obtain⟨h3,h4⟩:=chk_inv h2
  obtain⟨h5,h6⟩:=kfits_s h3
  exact Out.new (v:=.ptr nx [] s) h4 (yBox_s (e:=⟨.ptr nx [] s,[],[⟨.box t,s,(kev τ x).v⟩],[]⟩) ho (by unfold yBox; rw[h1,←kev_v]; simp only[h5,h6,Bool.and_self,if_true]; rfl)) (EImp.refl _)
def ldS (P:Program) (t:TypeId):Option Shape:=match tshape P t,P.underlying t with
  | some s,some _=>some s
  | _,_=>none
omit [KGl] in
theorem ldS_s {t:TypeId}{s:Shape}(h:ldS P t=some s):tshape P t=some s∧∃ d,P.underlying t=some d:=by
  unfold ldS at h
  split at h
  · rename_i h1 h2; cases h; exact⟨h1,_,h2⟩
  · cases h
def ldP (s:Shape) (zm:KZ) (nx:Nat) (K:KT) (id:Nat) (p:List Step) (s':Shape):Prop:=oB zm id fun k _ v=>chk (nd (isAl k) (nd (pthOk p v) (s'.beq s))) 33 (fV (kpath p v) fun v=>K v zm nx [] [id])
def ldR (s:Shape) (zm:KZ) (nx:Nat) (K:KT) (_:Bool) (s':Shape) (c:KV):Prop:=chk (s'.beq s) 34 (fV c fun v=>K v zm nx [] [])
def kLoad (P:Program) (t:TypeId) (a:KV) (zm:KZ) (nx:Nat) (K:KT):Prop:=os 35 (fun s=>onPtr (ldP s zm nx K) (onRef (ldR s zm nx K) (BadN 36) a) a) (ldS P t)
theorem kLoad_s {t:TypeId}{x:Operand}(ho:o.op=.load t x) (h:kLoad P t (kev τ x) zm nx K):Out P B o τ lo zm nx K:=by
  obtain⟨s,h1,h2⟩:=os_inv h
  obtain⟨hs,d,hu⟩:=ldS_s h1
  have hx:=kev_v τ x
  rcases onPtr_inv h2 with ⟨id,p,s',hp,h3⟩ | ⟨_,h3⟩
  · obtain⟨k,sh,v,hb,h4⟩:=oB_inv h3
    obtain⟨h5,h6⟩:=chk_inv h4
    rw[fV_eq] at h6
    simp only[nd_iff] at h5
    rw[hp] at hx
    exact Out.pure h6 (yLoad_s (e:=⟨(kpath p v).v,[],[],[id]⟩) ho (by
      unfold yLoad; rw[hs,hu,←hx]
      simp only[v_ptr,am_some hb,KBlk.b,isAl_eq,h5.1,h5.2.2,Bool.and_self,if_true,kpath_v p v h5.2.1]; rfl)) (EImp.refl _)
  · rcases onRef_inv h3 with ⟨u,s',c,hp,h4⟩ | ⟨_,h4⟩
    · obtain⟨h5,h6⟩:=chk_inv h4
      rw[fV_eq] at h6
      rw[hp] at hx
      exact Out.pure h6 (yLoad_s (e:=pureE c.v) ho (by
        unfold yLoad; rw[hs,hu,←hx]
        simp only[v_ref,h5,if_true]; rfl)) (EImp.refl _)
    · exact h4.elim
def stP (lo:Nat) (x:KV) (s:Shape) (zm:KZ) (nx:Nat) (K:KT) (id:Nat) (p:List Step) (s':Shape):Prop :=
  oB zm id fun k sh v=>chk (nd (Nat.ble lo id) (nd (isAl k) (nd (s'.beq s) (kfits x s)))) 37 (ksetP x p v fun v=>upB id k sh v zm fun zm=>K (.tup .nl) zm nx [id] [])
def kStore (lo:Nat) (P:Program) (t:TypeId) (a x:KV) (zm:KZ) (nx:Nat) (K:KT):Prop:=os 38 (fun s=>onPtr (stP lo x s zm nx K) (BadN 39) a) (tshape P t)
theorem kStore_s {t:TypeId}{a x:Operand}(ho:o.op=.store t a x) (h:kStore lo P t (kev τ a) (kev τ x) zm nx K):Out P B o τ lo zm nx K:=by
  obtain⟨s,hs,h2⟩:=os_inv h
  have hx:=kev_v τ a
  rcases onPtr_inv h2 with ⟨id,p,s',hp,h3⟩ | ⟨_,h3⟩
  · obtain⟨k,sh,v,hb,h4⟩:=oB_inv h3
    obtain⟨h5,h6⟩:=chk_inv h4
    simp only[nd_iff] at h5
    obtain⟨h7,h8,h9,h10⟩:=h5
    obtain⟨h11,h12⟩:=kfits_s h10
    obtain⟨v',h13,h14⟩:=ksetP_s _ _ _ _ h6
    rw[hp] at hx
    exact Out.up (v:=.tup .nl) h13 (Nat.le_of_ble_eq_true h7) (yStore_s (e:=⟨.tup .nl,[(id,⟨k,sh,v'.v⟩)],[],[]⟩) ho (by
      unfold yStore; rw[hs,←hx,←kev_v]
      simp only[v_ptr,am_some hb,KBlk.b,isAl_eq,h8,h9,h11,h12,Bool.and_self,if_true,setX_eq,h14]; rfl)) (EImp.refl _)
  · exact h3.elim
def kNil (x:KV) (zm:KZ) (nx:Nat) (K:KT):Prop:=onPtr (fun _ _ _=>K x zm nx [] []) (onRef (fun _ _ _=>K x zm nx [] []) (onFn (fun f _=>chk (Nat.blt f 2147483648) 46 (K x zm nx [] [])) (BadN 40) x) x) x
theorem kNil_s {x:Operand}(ho:o.op=.nilCheck x) (h:kNil (kev τ x) zm nx K):Out P B o τ lo zm nx K:=by
  have hx:=kev_v τ x
  rcases onPtr_inv h with ⟨_,_,_,hp,h3⟩ | ⟨_,h3⟩
  · exact Out.pure h3 (yNil_s (e:=pureE (kev τ x).v) ho (by rw[←hx,hp]; rfl)) (EImp.refl _)
  · rcases onRef_inv h3 with ⟨_,_,_,hp,h3⟩ | ⟨_,h3⟩
    · exact Out.pure h3 (yNil_s (e:=pureE (kev τ x).v) ho (by rw[←hx,hp]; rfl)) (EImp.refl _)
    · rcases onFn_inv h3 with ⟨f,c,hp,h3⟩ | ⟨_,h3⟩
      · obtain⟨hf,h3⟩:=chk_inv h3
        exact Out.pure h3 (yNil_s (e:=pureE (kev τ x).v) ho (by rw[←hx,hp,v_fn]; exact⟨hf,rfl⟩)) (EImp.refl _)
      · exact h3.elim
def snocK (p:List Step) (s:Step):(List Step→Prop)→Prop:=@List.rec Step (fun _=>(List Step→Prop)→Prop) (fun K=>K [s]) (fun x _ ih K=>ih fun r=>K (x::r)) p
omit [KGl] in
theorem snocK_eq (s:Step):∀(p:List Step) (K:List Step→Prop),snocK p s K=K (p++[s])
  | [],K=>rfl
  | x::p,K=>snocK_eq s p fun r=>K (x::r)
def fdS (P:Program) (st:TypeId) (f:Nat):Option (Shape×Shape):=match P.underlying st with
  | some (.struct fs)=>match fs[f]? with
    | some fd=>match P.info? fd.type,(shp P 12 st).fld f with
      | some i,some (d,s')=>if i.size≠0∧d=fd.offset then some (shp P 12 st,s') else none
      | _,_=>none
    | none=>none
  | _=>none
def fdP (f:Nat) (zm:KZ) (nx:Nat) (K:KT) (s s2:Shape) (id:Nat) (p:List Step) (s':Shape):Prop:=chk (s'.beq s) 41 (snocK p (.fld f) fun p=>K (.ptr id p s2) zm nx [] [])
def fdR (f:Nat) (zm:KZ) (nx:Nat) (K:KT) (s s2:Shape) (u:Bool) (s':Shape) (c:KV):Prop:=chk (s'.beq s) 42 (fV (kfld f c) fun c=>K (.ref u s2 c) zm nx [] [])
def kField (P:Program) (st:TypeId) (x:KV) (f:Nat) (zm:KZ) (nx:Nat) (K:KT):Prop :=
  os 43 (pr fun s s2=>onPtr (fdP f zm nx K s s2) (onRef (fdR f zm nx K s s2) (BadN 44) x) x) (fdS P st f)
theorem kField_s {st:TypeId}{x:Operand}{f:Nat}(ho:o.op=.fieldAddr st x f) (h:kField P st (kev τ x) f zm nx K):Out P B o τ lo zm nx K:=by
  obtain⟨⟨s,s2⟩,h1,h2⟩:=os_inv h
  have hx:=kev_v τ x
  have key:∃ fs fd i d,P.underlying st=some (.struct fs)∧fs[f]?=some fd∧P.info? fd.type=some i∧i.size≠0∧s.fld f=some (d,s2)∧d=fd.offset:=by
    unfold fdS at h1
    split at h1
    · rename_i fs hu
      split at h1
      · rename_i fd hf
        split at h1
        · rename_i i d s' hi hd
          split at h1
          · rename_i hc
            simp only[Option.some.injEq,Prod.mk.injEq] at h1
            obtain⟨rfl,rfl⟩:=h1
            exact⟨fs,fd,i,d,hu,hf,hi,hc.1,hd,hc.2⟩
          · cases h1
        · cases h1
      · cases h1
    · cases h1
  obtain⟨fs,fd,i,d,q1,q2,q3,q4,q5,q6⟩:=key
  rcases onPtr_inv h2 with ⟨id,p,s',hp,h3⟩ | ⟨_,h3⟩
  · obtain⟨h4,h5⟩:=chk_inv h3
    rw[snocK_eq] at h5
    obtain rfl:=Shape.eq_of_beq h4
    rw[hp] at hx
    exact Out.pure h5 (yField_s (e:=pureE (.ptr id (p++[.fld f]) s2)) ho (by
      unfold yField; rw[q1,←hx]
      simp only[q2,q3,q4,if_false,v_ptr,q5,q6,if_true]; rfl)) (EImp.refl _)
  · rcases onRef_inv h3 with ⟨u,s',c,hp,h3⟩ | ⟨_,h3⟩
    · obtain⟨h4,h5⟩:=chk_inv h3
      rw[fV_eq] at h5
      obtain rfl:=Shape.eq_of_beq h4
      rw[hp] at hx
      exact Out.pure h5 (yField_s (e:=pureE (.ref u s2 (kfld f c).v)) ho (by
        unfold yField; rw[q1,←hx]
        simp only[q2,q3,q4,if_false,v_ref,q5,q6,if_true,kfld_v]; rfl)) (EImp.refl _)
    · exact h3.elim
inductive IxS where
  | arr (n z:Nat)
  | sli (z:Nat)
  | bad
def ixS (P:Program) (t:TypeId):IxS:=match P.underlying t with
  | some (.array n el)=>match P.info? el with
    | some i=>.arr n i.size
    | none=>.bad
  | some (.slice el)=>match P.info? el with
    | some i=>.sli i.size
    | none=>.bad
  | _=>.bad
def onIx (f:Nat→Nat→Prop) (g:Nat→Prop) (x:IxS):Prop:=@IxS.rec (fun _=>Prop) f g (BadN 45) x
omit [KGl] in
theorem onIx_inv {f:Nat→Nat→Prop}{g:Nat→Prop}{t:TypeId}(h:onIx f g (ixS P t)) :
    (∃ n el i,P.underlying t=some (.array n el)∧P.info? el=some i∧f n i.size)∨(∃ el i,P.underlying t=some (.slice el)∧P.info? el=some i∧g i.size):=by
  unfold ixS at h
  split at h
  · rename_i n el hu
    split at h
    · rename_i i hi; exact .inl ⟨n,el,i,hu,hi,h⟩
    · exact (show BadN 45 from h).elim
  · rename_i el hu
    split at h
    · rename_i i hi; exact .inr ⟨el,i,hu,hi,h⟩
    · exact (show BadN 45 from h).elim
  · exact (show BadN 45 from h).elim
def natI (j:Int):Nat:=@Int.rec (fun _=>Nat) (fun n=>n) (fun _=>0) j
omit [KGl] in
theorem natI_eq (j:Int):natI j=j.toNat:=by cases j<;>rfl
def shA (s:Shape) (f:Nat→Shape→Prop) (z:Prop):Prop:=@Shape.rec (fun _=>Prop) z z (fun _ _ _ _=>z) (fun n e _=>f n e) s
omit [KGl] in
theorem shA_inv {s:Shape}{f:Nat→Shape→Prop}{n:Nat}(h:shA s f (BadN n)):∃ m e,s=.arr m e∧f m e:=by
  cases s with
  | arr m e=>exact⟨m,e,rfl,h⟩
  | sc=>exact (show BadN n from h).elim
  | nl=>exact (show BadN n from h).elim
  | cons a b=>exact (show BadN n from h).elim
def ixP (j:Int) (n z:Nat) (zm:KZ) (nx:Nat) (K:KT) (id:Nat) (p:List Step) (s:Shape):Prop :=
  shA s (fun n' e=>chk (nd (Nat.beq n' n) (Nat.beq z e.size)) 46 (cnd (ixB j n) (fN (natI j) fun i=>snocK p (.idx i) fun p=>K (.ptr id p e) zm nx [] []))) (BadN 47)
def ixR (j:Int) (n z:Nat) (zm:KZ) (nx:Nat) (K:KT) (u:Bool) (s:Shape) (c:KV):Prop :=
  shA s (fun n' e=>chk (nd (Nat.beq n' n) (Nat.beq z e.size)) 48 (cnd (ixB j n) (fV (kidx (natI j) c) fun c=>K (.ref u e c) zm nx [] []))) (BadN 49)
def ixW (j:Int) (z:Nat) (zm:KZ) (nx:Nat) (K:KT) (id:Nat) (e:Shape) (len:Nat):Prop :=
  oB zm id fun k _ _=>chk (nd (isAl k) (Nat.beq z e.size)) 50 (cnd (ixB j len) (fN (natI j) fun i=>K (.ptr id [.idx i] e) zm nx [] [id]))
def ixL (j:Int) (z:Nat) (zm:KZ) (nx:Nat) (K:KT) (id:Nat) (p:List Step) (e:Shape) (off len:Nat) (_:Option Nat):Prop :=
  chk (Nat.beq z e.size) 51 (cnd (ixB j len) (fN (Nat.add off (natI j)) fun i=>snocK p (.idx i) fun p=>K (.ptr id p e) zm nx [] []))
def ixO (j:Int) (z:Nat) (zm:KZ) (nx:Nat) (K:KT) (u _:Bool) (e:Shape) (off len:Nat) (c:KV):Prop :=
  chk (Nat.beq z e.size) 52 (cnd (ixB j len) (fV (kidx (Nat.add off (natI j)) c) fun c=>K (.ref u e c) zm nx [] []))
def kIndex (P:Program) (t:TypeId) (x ix:KV) (zm:KZ) (nx:Nat) (K:KT):Prop :=
  onInt (fun _ j=>onIx (fun n z=>onPtr (ixP j n z zm nx K) (onRef (ixR j n z zm nx K) (BadN 53) x) x) (fun z=>onSl (ixL j z zm nx K) (onRow (ixW j z zm nx K) (onRo (ixO j z zm nx K) (BadN 54) x) x) x) (ixS P t)) (BadN 55) ix
omit [KGl] in
theorem beqE {a b:Nat}(h:Nat.beq a b=true):a=b:=Nat.eq_of_beq_eq_true h
omit [KGl] in
theorem tstE {c:Bool}{e:Eff}(h:c=true):(RS.tst c e).is e:=⟨h,rfl⟩
theorem kIndex_s {t:TypeId}{x ix:Operand}(ho:o.op=.indexAddr t x ix) (h:kIndex P t (kev τ x) (kev τ ix) zm nx K):Out P B o τ lo zm nx K:=by
  have hx:=kev_v τ x
  have hi:=kev_v τ ix
  rcases onInt_inv h with ⟨k,j,hj,h1⟩ | ⟨_,h1⟩
  · rw[hj] at hi
    rcases onIx_inv h1 with ⟨n,el,i,hu,hif,h2⟩ | ⟨el,i,hu,hif,h2⟩
    · rcases onPtr_inv h2 with ⟨id,p,s,hp,h3⟩ | ⟨_,h3⟩
      · obtain⟨n',e,rfl,h4⟩:=shA_inv h3
        obtain⟨h5,h6⟩:=chk_inv h4
        obtain⟨h7,h8⟩:=cnd_iff.1 h6
        rw[fN_eq,snocK_eq] at h8
        rw[nd_iff] at h5
        rw[hp] at hx
        exact Out.pure h8 (yIndex_s (e:=pureE (.ptr id (p++[.idx j.toNat]) e)) ho (by
          unfold yIndex; rw[←hx,←hi]
          simp only[v_int,hu,hif,v_ptr,beqE h5.1,beqE h5.2,and_self,if_true]
          exact tstE h7)) (by rw[natI_eq]; exact EImp.refl _)
      · rcases onRef_inv h3 with ⟨u,s,c,hp,h3⟩ | ⟨_,h3⟩
        · obtain⟨n',e,rfl,h4⟩:=shA_inv h3
          obtain⟨h5,h6⟩:=chk_inv h4
          obtain⟨h7,h8⟩:=cnd_iff.1 h6
          rw[fV_eq] at h8
          rw[nd_iff] at h5
          rw[hp] at hx
          exact Out.pure h8 (yIndex_s (e:=pureE (.ref u e (c.v.step (.idx j.toNat)))) ho (by
            unfold yIndex; rw[←hx,←hi]
            simp only[v_int,hu,hif,v_ref,beqE h5.1,beqE h5.2,and_self,if_true]
            exact tstE h7)) (by rw[natI_eq,v_ref,kidx_v]; exact EImp.refl _)
        · exact h3.elim
    · rcases onSl_inv h2 with ⟨id,p,e,off,len,cap,hp,h3⟩ | ⟨_,h3⟩
      · obtain⟨h5,h6⟩:=chk_inv h3
        obtain⟨h7,h8⟩:=cnd_iff.1 h6
        rw[fN_eq,snocK_eq] at h8
        rw[hp] at hx
        exact Out.pure h8 (yIndex_s (e:=pureE (.ptr id (p++[.idx (off + j.toNat)]) e)) ho (by
          unfold yIndex; rw[←hx,←hi]
          simp only[v_int,hu,hif,v_sl,beqE h5,if_true]
          exact tstE h7)) (by rw[natI_eq]; exact EImp.refl _)
      · rcases onRow_inv h3 with ⟨id,e,len,hp,h3⟩ | ⟨_,h3⟩
        · obtain⟨k',sh,v,hb,h4⟩:=oB_inv h3
          obtain⟨h5,h6⟩:=chk_inv h4
          obtain⟨h7,h8⟩:=cnd_iff.1 h6
          rw[fN_eq] at h8
          rw[nd_iff] at h5
          rw[hp] at hx
          exact Out.pure h8 (yIndex_s (e:=⟨.ptr id [.idx j.toNat] e,[],[],[id]⟩) ho (by
            unfold yIndex; rw[←hx,←hi]
            simp only[v_int,hu,hif,v_row,am_some hb,KBlk.b,isAl_eq,h5.1,beqE h5.2,and_self,if_true]
            exact tstE h7)) (by rw[natI_eq]; exact EImp.refl _)
        · rcases onRo_inv h3 with ⟨u,clip,e,off,len,c,hp,h3⟩ | ⟨_,h3⟩
          · obtain⟨h5,h6⟩:=chk_inv h3
            obtain⟨h7,h8⟩:=cnd_iff.1 h6
            rw[fV_eq] at h8
            rw[hp] at hx
            exact Out.pure h8 (yIndex_s (e:=pureE (.ref u e (c.v.step (.idx (off + j.toNat))))) ho (by
              unfold yIndex; rw[←hx,←hi]
              simp only[v_int,hu,hif,v_ro,beqE h5,if_true]
              exact tstE h7)) (by rw[natI_eq,v_ref,kidx_v]; exact EImp.refl _)
          · exact h3.elim
  · exact h1.elim
end
end
end Go.K
namespace Go.K
open Go.Ab Go.RowKit Go.Y
noncomputable section
variable [KGl]
section
variable {P:Program}{B:Nat}{o:Oper}{τ:Nat→KV}{lo:Nat}{zm:KZ}{nx:Nat}{K:KT}
abbrev NF:=IntKind→Int→IntKind→Int→(KV→Prop)→Prop
def bI (f:IntKind→Int→Int→Int):NF:=fun k a k' b K=>chk (ikEq k k') 60 (fI (f k a b) fun r=>K (.int k r))
def oNat (k:IntKind) (r:Nat) (K:Int→Prop):Prop:=@Bool.rec (fun _=>Prop) (K (.ofNat (Nat.mod r (mdl k)))) (cnd (Nat.blt r (hlf k)) (K (.ofNat r))) (sgn k)
omit [KGl] in
theorem oNat_s {k:IntKind}{r:Nat}{K:Int→Prop}(h:oNat k r K):K (fitN k r):=by
  unfold oNat at h
  unfold fitN
  cases hs:sgn k with
  | false=>rw[hs] at h; exact h
  | true =>
    rw[hs] at h
    obtain⟨h1,h2⟩:=cnd_iff.1 (show cnd (Nat.blt r (hlf k)) (K (.ofNat r)) from h)
    show K (bif Nat.blt r (hlf k) then .ofNat r else k.wrap (.ofNat r))
    rw[h1]; exact h2
abbrev PF:=IntKind→Int→Int→(Int→Prop)→Prop
def on2 (g:Nat→Nat→Prop) (z:Prop) (a b:Int):Prop:=@Int.rec (fun _=>Prop) (fun x=>@Int.rec (fun _=>Prop) (fun y=>g x y) (fun _=>z) b) (fun _=>z) a
omit [KGl] in
theorem on2_s {g:Nat→Nat→Prop}{z p:Prop}{a b:Int}(h:on2 g z a b) (h1:∀ x y,a=.ofNat x→b=.ofNat y→g x y→p) (h2:z→p):p:=by
  cases a with
  | negSucc x=>exact h2 h
  | ofNat x =>
    cases b with
    | negSucc y=>exact h2 h
    | ofNat y=>exact h1 x y rfl rfl h
def addP:PF:=fun k a b K=>on2 (fun x y=>oNat k (Nat.add x y) K) (K (addI k a b)) a b
def mulP:PF:=fun k a b K=>on2 (fun x y=>oNat k (Nat.mul x y) K) (K (mulI k a b)) a b
def divP:PF:=fun k a b K=>on2 (fun x y=>oNat k (Nat.div x y) K) (K (divI k a b)) a b
def subP:PF:=fun k a b K=>on2 (fun x y=>@Bool.rec (fun _=>Prop) (K (subI k a b)) (@Bool.rec (fun _=>Prop) (K (subI k a b)) (oNat k (Nat.sub x y) K) (sgn k)) (Nat.ble y x)) (K (subI k a b)) a b
omit [KGl] in
theorem addP_s {k:IntKind}{a b:Int}{K:Int→Prop}(h:addP k a b K):K (addI k a b):=on2_s h (fun x y e1 e2 h=>by subst e1; subst e2; exact oNat_s h) id
omit [KGl] in
theorem mulP_s {k:IntKind}{a b:Int}{K:Int→Prop}(h:mulP k a b K):K (mulI k a b):=on2_s h (fun x y e1 e2 h=>by subst e1; subst e2; exact oNat_s h) id
omit [KGl] in
theorem divP_s {k:IntKind}{a b:Int}{K:Int→Prop}(h:divP k a b K):K (divI k a b):=on2_s h (fun x y e1 e2 h=>by subst e1; subst e2; exact oNat_s h) id
omit [KGl] in
theorem subP_s {k:IntKind}{a b:Int}{K:Int→Prop}(h:subP k a b K):K (subI k a b):=on2_s h (fun x y e1 e2 h=>by
  subst e1; subst e2
  cases hb:Nat.ble y x with
  | false=>rw[hb] at h; exact h
  | true =>
    rw[hb] at h
    cases hs:sgn k with
    | false=>rw[hs] at h; exact h
    | true =>
      rw[hs] at h
      have:=oNat_s (show oNat k (Nat.sub x y) K from h)
      show K (@Bool.rec (fun _=>Int) (fitN k (x + (mdl k - y % mdl k))) (bif Nat.ble y x then fitN k (x - y) else k.wrap (Int.ofNat x - Int.ofNat y)) (sgn k))
      rw[hs,hb]; exact this) id
def wrpP (k:IntKind) (a:Int) (K:Int→Prop):Prop:=@Int.rec (fun _=>Prop) (fun x=>oNat k x K) (fun _=>K (wrpI k a)) a
omit [KGl] in
theorem wrpP_s {k:IntKind}{a:Int}{K:Int→Prop}(h:wrpP k a K):K (wrpI k a):=by
  cases a with
  | ofNat x=>exact oNat_s h
  | negSucc x=>exact h
def bP (f:IntKind→Int→Int→Int) (p:PF):NF:=fun k a k' b K=>chk (ikEq k k') 60 (@Bool.rec (fun _=>Prop) (p k a b fun r=>K (.int k r)) (fI (f k a b) fun r=>K (.int k r)) Gl.cl)
theorem bP_s {f:IntKind→Int→Int→Int}{p:PF}(hp:∀ {k a b K},p k a b K→K (f k a b)) {k k':IntKind}{a b:Int}{K:KV→Prop}(h:bP f p k a k' b K):bI f k a k' b K:=by
  unfold bP at h
  unfold bI
  obtain⟨h1,h2⟩:=chk_inv h
  rw[h1]
  show fI (f k a b) fun r=>K (.int k r)
  rw[fI_eq]
  cases hc:(Gl.cl:Bool) with
  | false=>rw[hc] at h2; exact hp (K:=fun r=>K (.int k r)) h2
  | true=>rw[hc] at h2; have h2:fI (f k a b) fun r=>K (.int k r):=h2; rwa [fI_eq] at h2
def bD (f:IntKind→Int→Int→Int):NF:=fun k a k' b K=>chk (ikEq k k') 61 (cnd (neB b) (fI (f k a b) fun r=>K (.int k r)))
def bDP (f:IntKind→Int→Int→Int) (p:PF):NF:=fun k a k' b K=>chk (ikEq k k') 61 (cnd (neB b) (@Bool.rec (fun _=>Prop) (p k a b fun r=>K (.int k r)) (fI (f k a b) fun r=>K (.int k r)) Gl.cl))
theorem bDP_s {f:IntKind→Int→Int→Int}{p:PF}(hp:∀ {k a b K},p k a b K→K (f k a b)) {k k':IntKind}{a b:Int}{K:KV→Prop}(h:bDP f p k a k' b K):bD f k a k' b K:=by
  unfold bDP at h
  unfold bD
  obtain⟨h1,h2⟩:=chk_inv h
  obtain⟨h3,h4⟩:=cnd_iff.1 h2
  rw[h1]
  refine cnd_iff.2 ⟨h3,?_⟩
  rw[fI_eq]
  cases hc:(Gl.cl:Bool) with
  | false=>rw[hc] at h4; exact hp (K:=fun r=>K (.int k r)) h4
  | true=>rw[hc] at h4; have h4:fI (f k a b) fun r=>K (.int k r):=h4; rwa [fI_eq] at h4
def bS (f:IntKind→Int→Nat→Int):NF:=fun k a _ b K=>cnd (geB b) (fI (f k a (min b.toNat k.bits)) fun r=>K (.int k r))
def bB (f:Int→Int→Bool):NF:=fun k a k' b K=>chk (ikEq k k') 62 (fB (f a b) fun r=>K (.bool r))
def remI (k:IntKind) (a b:Int):Int:=match a,b with
  | .ofNat x,.ofNat y=>.ofNat (x % y)
  | a,b=>a.tmod b
omit [KGl] in
theorem remI_eq (k:IntKind) (a b:Int):remI k a b=a.tmod b:=by
  unfold remI
  split
  · rfl
  · rfl
def anI (k:IntKind) (a b:Int):Int:=k.wrap (BitVec.ofInt k.bits a &&& ~~~ BitVec.ofInt k.bits b).toNat
def shrI (k:IntKind) (a:Int) (n:Nat):Int:=fdv a (2 ^ n)
def kNum (op:BinOp):NF:=@BinOp.rec (fun _=>NF) (bP addI addP) (bP subI subP) (bP mulI mulP) (bDP divI divP) (bD remI) (bI andI) (bI orI) (bI xorI) (bS shlI) (bS shrI) (bI anI)
  (bB eqI) (bB fun a b=>!eqI a b) (bB ltI) (bB leI) (bB fun a b=>ltI b a) (bB fun a b=>leI b a) op
def kNumB (op:BinOp) (k:IntKind) (a:Int) (zm:KZ) (nx:Nat) (K:KT) (k':IntKind) (b:Int):Prop:=kNum op k a k' b fun r=>K r zm nx [] []
omit [KGl] in
theorem yBinA_int (op:BinOp) (t:TypeId) (k k':IntKind) (a b:Int):yBinA P op t (.int k a) (.int k' b)=yBin P op t (.int k a) (.int k' b):=rfl
omit [KGl] in
theorem yBinA_bool (op:BinOp) (t:TypeId) (a b:Bool):yBinA P op t (.bool a) (.bool b)=yBin P op t (.bool a) (.bool b):=rfl
theorem kNum_s {op:BinOp}{t t':TypeId}{x y:Operand}{k k':IntKind}{a b:Int}(ho:o.op=.binOp op t x y t') (hx:kev τ x=.int k a) (hy:kev τ y=.int k' b) (h:kNum op k a k' b fun r=>K r zm nx [] []):Out P B o τ lo zm nx K:=by
  have qx:opv Gl.G (tv' τ) x=.int k a:=by rw[←kev_v,hx]; rfl
  have qy:opv Gl.G (tv' τ) y=.int k' b:=by rw[←kev_v,hy]; rfl
  have fin:∀ {r:KV},K r zm nx [] []→(yBinA P op t (.int k a) (.int k' b)).is (pureE r.v)→Out P B o τ lo zm nx K:=fun hk hr =>
    Out.pure hk (yBinA_s (e:=pureE _) ho (by rw[qx,qy]; exact hr)) (EImp.refl _)
  have hI:∀ {f:IntKind→Int→Int→Int},bI f k a k' b (fun r=>K r zm nx [] [])→k'=k∧K (.int k (f k a b)) zm nx [] []:=fun h=>by
    obtain⟨h1,h2⟩:=chk_inv h
    rw[fI_eq] at h2
    exact⟨(ikEq_eq h1).symm,h2⟩
  have hB:∀ {f:Int→Int→Bool},bB f k a k' b (fun r=>K r zm nx [] [])→k'=k∧K (.bool (f a b)) zm nx [] []:=fun h=>by
    obtain⟨h1,h2⟩:=chk_inv h
    rw[fB_eq] at h2
    exact⟨(ikEq_eq h1).symm,h2⟩
  have hD:∀ {f:IntKind→Int→Int→Int},bD f k a k' b (fun r=>K r zm nx [] [])→k'=k∧neB b=true∧K (.int k (f k a b)) zm nx [] []:=fun h=>by
    obtain⟨h1,h2⟩:=chk_inv h
    obtain⟨h3,h4⟩:=cnd_iff.1 h2
    rw[fI_eq] at h4
    exact⟨(ikEq_eq h1).symm,h3,h4⟩
  have hS:∀ {f:IntKind→Int→Nat→Int},bS f k a k' b (fun r=>K r zm nx [] [])→geB b=true∧K (.int k (f k a (min b.toNat k.bits))) zm nx [] []:=fun h=>by
    obtain⟨h3,h4⟩:=cnd_iff.1 h
    rw[fI_eq] at h4
    exact⟨h3,h4⟩
  have ikr:∀ k,ikEq k k=true:=fun k=>by cases k<;>rfl
  cases op
  case shl=>obtain⟨h1,h2⟩:=hS h; exact fin h2 ⟨h1,rfl⟩
  case shr=>obtain⟨h1,h2⟩:=hS h; exact fin h2 ⟨h1,rfl⟩
  case add=>obtain⟨rfl,h2⟩:=hI (bP_s addP_s h); exact fin h2 (by rw[yBinA_int]; simp only[yBin,ikr,if_true]; rfl)
  case sub=>obtain⟨rfl,h2⟩:=hI (bP_s subP_s h); exact fin h2 (by rw[yBinA_int]; simp only[yBin,ikr,if_true]; rfl)
  case mul=>obtain⟨rfl,h2⟩:=hI (bP_s mulP_s h); exact fin h2 (by rw[yBinA_int]; simp only[yBin,ikr,if_true]; rfl)
  case quo=>obtain⟨rfl,h1,h2⟩:=hD (bDP_s divP_s h); exact fin h2 (by rw[yBinA_int]; simp only[yBin,ikr,if_true]; exact⟨h1,rfl⟩)
  case rem=>obtain⟨rfl,h1,h2⟩:=hD h; exact fin h2 (by rw[yBinA_int]; simp only[yBin,ikr,if_true]; exact⟨h1,by rw[v_int,remI_eq]; rfl⟩)
  case eql=>obtain⟨rfl,h2⟩:=hB h; exact fin h2 (by rw[yBinA_int]; simp only[yBin,ikr,if_true]; rfl)
  case neq=>obtain⟨rfl,h2⟩:=hB (f:=fun a b=>!eqI a b) h; exact fin h2 (by rw[yBinA_int]; simp only[yBin,ikr,if_true]; rfl)
  case lss=>obtain⟨rfl,h2⟩:=hB h; exact fin h2 (by rw[yBinA_int]; simp only[yBin,ikr,if_true]; rfl)
  case leq=>obtain⟨rfl,h2⟩:=hB h; exact fin h2 (by rw[yBinA_int]; simp only[yBin,ikr,if_true]; rfl)
  case gtr=>obtain⟨rfl,h2⟩:=hB (f:=fun a b=>ltI b a) h; exact fin h2 (by rw[yBinA_int]; simp only[yBin,ikr,if_true]; rfl)
  case geq=>obtain⟨rfl,h2⟩:=hB (f:=fun a b=>leI b a) h; exact fin h2 (by rw[yBinA_int]; simp only[yBin,ikr,if_true]; rfl)
  all_goals
    obtain⟨rfl,h2⟩:=hI h
    exact fin h2 (by rw[yBinA_int]; simp only[yBin,ikr,if_true]; rfl)
def isBoolT (P:Program) (t:TypeId):Bool:=match P.underlying t with | some .bool=>true | _=>false
def eqn (op:BinOp) (b:Bool) (K:Bool→Prop):Prop:=@BinOp.rec (fun _=>Bool→(Bool→Prop)→Prop) (fun _ _=>BadN 63) (fun _ _=>BadN 63) (fun _ _=>BadN 63) (fun _ _=>BadN 63) (fun _ _=>BadN 63) (fun _ _=>BadN 63) (fun _ _=>BadN 63) (fun _ _=>BadN 63) (fun _ _=>BadN 63) (fun _ _=>BadN 63) (fun _ _=>BadN 63)
  (fun b K=>fB b K) (fun b K=>fB (!b) K) (fun _ _=>BadN 63) (fun _ _=>BadN 63) (fun _ _=>BadN 63) (fun _ _=>BadN 63) op b K
theorem eqn_inv {op:BinOp}{b:Bool}{K:Bool→Prop}(h:eqn op b K):(op=.eql∧K b)∨(op=.neq∧K (!b)):=by
  cases op
  case eql=>exact .inl ⟨rfl,by have h:fB b K:=h; rwa [fB_eq] at h⟩
  case neq=>exact .inr ⟨rfl,by have h:fB (!b) K:=h; rwa [fB_eq] at h⟩
  all_goals exact (show BadN 63 from h).elim
def beqB (a b:Bool):Bool:=@Bool.rec (fun _=>Bool) (@Bool.rec (fun _=>Bool) true false b) b a
omit [KGl] in
theorem beqB_eq (a b:Bool):beqB a b=(a==b):=by cases a<;>cases b<;>rfl
def strEq (n x m y:Nat):Bool:=nd (Nat.beq n m) (Nat.beq (pkx .u8 x 0 n) (pkx .u8 y 0 m))
omit [KGl] in
theorem pk_ext {k:IntKind}{x y n:Nat}(h:∀ i,i < n→pkr k x i=pkr k y i):pkx k x 0 n=pkx k y 0 n:=by
  have hw:0 < wd k:=by cases k<;>decide
  apply Nat.eq_of_testBit_eq; intro b
  show (bts x (wd k * 0) (wd k * n)).testBit b=(bts y (wd k * 0) (wd k * n)).testBit b
  rw[bts_bit,bts_bit]
  by_cases hb:b < wd k * n
  · have hi:b / wd k < n:=Nat.div_lt_of_lt_mul hb
    have h1:=congrArg (fun z=>z.testBit (b % wd k)) (h _ hi)
    replace h1:(bts x (wd k * (b / wd k)) (wd k)).testBit (b % wd k)=(bts y (wd k * (b / wd k)) (wd k)).testBit (b % wd k):=h1
    rw[bts_bit,bts_bit,Nat.div_add_mod] at h1
    have h2:b % wd k < wd k:=Nat.mod_lt _ hw
    simp only[h2,decide_true,Bool.true_and] at h1
    rw[Nat.mul_zero,Nat.zero_add,h1]
  · simp [hb]
omit [KGl] in
theorem pk_ext' {k:IntKind}{x y n:Nat}(h:pkx k x 0 n=pkx k y 0 n) (i:Nat) (hi:i < n):pkr k x i=pkr k y i:=by
  have h1:pkr k (pkx k x 0 n) i=pkr k (pkx k y 0 n) i:=by rw[h]
  rw[pkr_pkx hi,pkr_pkx hi,Nat.zero_add] at h1
  exact h1
omit [KGl] in
theorem dec_inj {k:IntKind}{r s:Nat}(hr:r < mdl k) (hs:s < mdl k) (h:dec k r=dec k s):r=s:=by
  have hh:=hlf_mdl k
  unfold dec at h
  cases hsg:sgn k with
  | false=>rw[hsg] at h; exact Int.ofNat.inj h
  | true =>
    rw[hsg] at h
    replace h:@Bool.rec (fun _=>Int) (Int.negSucc (mdl k - 1 - r)) (Int.ofNat r) (Nat.blt r (hlf k))=@Bool.rec (fun _=>Int) (Int.negSucc (mdl k - 1 - s)) (Int.ofNat s) (Nat.blt s (hlf k)):=h
    cases h1:Nat.blt r (hlf k)<;>cases h2:Nat.blt s (hlf k)<;>rw[h1,h2] at h
    · have:=Int.negSucc.inj h; omega
    · cases h
    · cases h
    · exact Int.ofNat.inj h
omit [KGl] in
theorem strEq_eq (n x m y:Nat):lbeq (bytesOf n x).data.toList (bytesOf m y).data.toList=strEq n x m y:=by
  rw[lbeq_eq]
  show ((List.range n).map (fun i=>UInt8.ofNat (pkr .u8 x i))==(List.range m).map fun i=>UInt8.ofNat (pkr .u8 y i))=nd (Nat.beq n m) _
  rw[Bool.eq_iff_iff,beq_iff_eq,nd_iff,Nat.beq_eq,Nat.beq_eq]
  constructor
  · intro h
    have hl:=congrArg List.length h
    simp only[List.length_map,List.length_range] at hl
    subst hl
    refine⟨rfl,pk_ext fun i hi=>?_⟩
    have:=congrArg (fun l=>l[i]?) h
    simp only[List.getElem?_map,List.getElem?_range hi,Option.map_some,Option.some.injEq] at this
    have h2:=congrArg UInt8.toNat this
    rw[UInt8.toNat_ofNat',UInt8.toNat_ofNat'] at h2
    have a1:=pkr_lt .u8 x i
    have a2:=pkr_lt .u8 y i
    simp only[mdl] at a1 a2
    omega
  · rintro⟨rfl,h⟩
    apply List.map_congr_left
    intro i hi
    rw[List.mem_range] at hi
    rw[pk_ext' h i hi]
def allN (f:Nat→Option Bool) (n:Nat):Option Bool:=@Nat.rec (fun _=>Option Bool) (some true) (fun i ih=>@Option.rec Bool (fun _=>Option Bool) none (fun b=>@Option.rec Bool (fun _=>Option Bool) none (fun c=>some (nd b c)) (f i)) ih) n
omit [KGl] in
theorem allN_s {f:Nat→Option Bool}{g:Nat→Bool}:∀(n:Nat) (b:Bool),(∀ i b,i < n→f i=some b→g i=b)→allN f n=some b→(List.range n).all g=b
  | 0,b,_,h=>by cases h; rfl
  | n + 1,b,hf,h=>by
    have h0:@Option.rec Bool (fun _=>Option Bool) none (fun b=>@Option.rec Bool (fun _=>Option Bool) none (fun c=>some (nd b c)) (f n)) (allN f n)=some b:=h
    cases h1:allN f n with
    | none=>rw[h1] at h0; cases h0
    | some b1 =>
      rw[h1] at h0
      cases h2:f n with
      | none=>rw[h2] at h0; cases h0
      | some c =>
        rw[h2] at h0
        have h3:nd b1 c=b:=Option.some.inj h0
        have q1:=allN_s n b1 (fun i b hi=>hf i b (by omega)) h1
        have q2:=hf n c (by omega) h2
        rw[List.range_succ,List.all_append,q1]
        simp only[List.all_cons,List.all_nil,Bool.and_true,q2]
        rw[←h3]
        cases b1<;>rfl
def keq:Nat→KV→KV→Option Bool
  | 0,_,_=>none
  | f + 1,v,w=>match v,w with
    | .int _ a,.int _ b=>some (eqI a b)
    | .bool a,.bool b=>some (beqB a b)
    | .str n x,.str m y=>some (strEq n x m y)
    | .nl,.nl=>some true
    | .cons h t,.cons h' t'=>match keq f h h',keq f t t' with
      | some a,some b=>some (nd a b)
      | _,_=>none
    | .pk k n x,.pk k' _ y=>bif ikEq k k' then some (Nat.beq (pkx k x 0 n) (pkx k y 0 n)) else none
    | .pk k n x,.ar m d t=>allN (fun i=>keq f (kidx i (.pk k n x)) (kidx i (.ar m d t))) n
    | .pk k n x,.fa m g=>allN (fun i=>keq f (kidx i (.pk k n x)) (kidx i (.fa m g))) n
    | .ar n d t,w=>match w with
      | .ar _ _ _=>allN (fun i=>keq f (kidx i (.ar n d t)) (kidx i w)) n
      | .pk _ _ _=>allN (fun i=>keq f (kidx i (.ar n d t)) (kidx i w)) n
      | .fa _ _=>allN (fun i=>keq f (kidx i (.ar n d t)) (kidx i w)) n
      | _=>none
    | .fa n g,w=>match w with
      | .ar _ _ _=>allN (fun i=>keq f (kidx i (.fa n g)) (kidx i w)) n
      | .pk _ _ _=>allN (fun i=>keq f (kidx i (.fa n g)) (kidx i w)) n
      | .fa _ _=>allN (fun i=>keq f (kidx i (.fa n g)) (kidx i w)) n
      | _=>none
    | _,_=>none
omit [KGl] in
theorem nd_eq (a b:Bool):nd a b=(a&&b):=by cases a<;>rfl
omit [KGl] in
theorem eqV_arr {v w:KV}{n m:Nat}{f g:Nat→V}(hv:v.v=.arr n f) (hw:w.v=.arr m g):eqV v.v w.v=(List.range n).all fun i=>eqV (kidx i v).v (kidx i w).v:=by
  have h1:∀ i,(kidx i v).v=f i:=fun i=>by rw[kidx_v,hv]; rfl
  have h2:∀ i,(kidx i w).v=g i:=fun i=>by rw[kidx_v,hw]; rfl
  rw[hv,hw]
  show (List.range n).all (fun i=>eqV (f i) (g i))=_
  congr 1
  funext i
  rw[h1,h2]
omit [KGl] in
theorem keq_s:∀(f:Nat) (v w:KV) (b:Bool),keq f v w=some b→eqV v.v w.v=b
  | 0,_,_,_,h=>by cases h
  | f + 1,v,w,b,h=>by
    have ih:=keq_s f
    unfold keq at h
    split at h
    · cases h; exact (eqI_eq _ _).symm
    · cases h; rw[beqB_eq]; rfl
    · rename_i n x m y
      cases h
      rw[←strEq_eq,lbeq_eq]
      show ((bytesOf n x).toList==(bytesOf m y).toList)=_
      rw[ByteArray.toList_eq,ByteArray.toList_eq]
    · cases h; rfl
    · split at h
      · rename_i a b' h1 h2
        cases h
        show (eqV (KV.v _) (KV.v _)&&eqV (KV.v _) (KV.v _))=_
        rw[ih _ _ _ h1,ih _ _ _ h2,nd_eq]
      · cases h
    · rename_i k n x k' m y
      cases hk:ikEq k k' with
      | false=>rw[hk] at h; cases h
      | true =>
        rw[hk] at h
        obtain rfl:=ikEq_eq hk
        have h1:Nat.beq (pkx k x 0 n) (pkx k y 0 n)=b:=Option.some.inj h
        rw[←h1]
        show ((List.range n).all fun i=>pkg k x i==pkg k y i)=_
        rw[Bool.eq_iff_iff,Nat.beq_eq,List.all_eq_true]
        constructor
        · intro h2
          refine pk_ext fun i hi=>?_
          have:=h2 i (List.mem_range.2 hi)
          rw[beq_iff_eq] at this
          exact dec_inj (pkr_lt _ _ _) (pkr_lt _ _ _) this
        · intro h2 i hi
          rw[beq_iff_eq]
          unfold pkg
          rw[pk_ext' h2 i (List.mem_range.1 hi)]
    · rw[eqV_arr (v_pk _ _ _) (v_ar _ _ _)]; exact allN_s _ _ (fun i b _ hb=>ih _ _ _ hb) h
    · rw[eqV_arr (v_pk _ _ _) (v_fa _ _)]; exact allN_s _ _ (fun i b _ hb=>ih _ _ _ hb) h
    · split at h
      · rw[eqV_arr (v_ar _ _ _) (v_ar _ _ _)]; exact allN_s _ _ (fun i b _ hb=>ih _ _ _ hb) h
      · rw[eqV_arr (v_ar _ _ _) (v_pk _ _ _)]; exact allN_s _ _ (fun i b _ hb=>ih _ _ _ hb) h
      · rw[eqV_arr (v_ar _ _ _) (v_fa _ _)]; exact allN_s _ _ (fun i b _ hb=>ih _ _ _ hb) h
      · cases h
    · split at h
      · rw[eqV_arr (v_fa _ _) (v_ar _ _ _)]; exact allN_s _ _ (fun i b _ hb=>ih _ _ _ hb) h
      · rw[eqV_arr (v_fa _ _) (v_pk _ _ _)]; exact allN_s _ _ (fun i b _ hb=>ih _ _ _ hb) h
      · rw[eqV_arr (v_fa _ _) (v_fa _ _)]; exact allN_s _ _ (fun i b _ hb=>ih _ _ _ hb) h
      · cases h
    · cases h
def cmpFs (r:TypeId→KV→Bool):List Field→KV→Bool
  | [],.nl=>true
  | f::fs,.cons h t=>nd (f.name != "_") (nd (r f.type h) (cmpFs r fs t))
  | _,_=>false
def allB (f:Nat→Bool) (n:Nat):Bool:=@Nat.rec (fun _=>Bool) true (fun i ih=>nd ih (f i)) n
omit [KGl] in
theorem allB_s {f:Nat→Bool}:∀ {n:Nat},allB f n=true→∀ i,i < n→f i=true
  | 0,_,i,hi=>by omega
  | n + 1,h,i,hi=>by
    obtain⟨h1,h2⟩:=nd_iff.1 (show nd (allB f n) (f n)=true from h)
    rcases Nat.lt_or_ge i n with h3 | h3
    · exact allB_s h1 i h3
    · obtain rfl:i=n:=by omega
      exact h2
def kcmp (P:Program):Nat→TypeId→KV→Bool
  | 0,_,_=>false
  | d + 1,t,v=>match P.underlying t with
    | some (.int k)=>match v with | .int k' _=>ikEq k k' | _=>false
    | some .bool=>match v with | .bool _=>true | _=>false
    | some .string=>match v with | .str _ _=>true | _=>false
    | some (.struct fs)=>nd (!P.stoodInHeld t) (cmpFs (kcmp P d) fs.toList v)
    | some (.array n e)=>match v with
      | .pk k m _=>nd (Nat.beq n m) (match P.underlying e with | some (.int k')=>nd (ikEq k' k) (Nat.blt 0 d) | _=>false)
      | .ar m d' t'=>nd (Nat.beq n m) (allB (fun i=>kcmp P d e (kidx i (.ar m d' t'))) n)
      | _=>false
    | _=>false
omit [KGl] in
theorem cmpFs_s {P:Program}{d:Nat}(ih:∀ t v w,kcmp P d t v=true→kcmp P d t w=true→eqT P d t v.v w.v=true):∀(fs:List Field) (v w:KV),cmpFs (kcmp P d) fs v=true→cmpFs (kcmp P d) fs w=true→eqFs (eqT P d) fs v.v w.v=true
  | [],v,w,h1,h2=>by
    cases v<;>first | (cases h1; done) | skip
    cases w<;>first | (cases h2; done) | rfl
  | f::fs,v,w,h1,h2=>by
    cases v<;>first | (cases h1; done) | skip
    rename_i a b
    cases w<;>first | (cases h2; done) | skip
    rename_i a' b'
    have h3:nd (f.name != "_") (nd (kcmp P d f.type a) (cmpFs (kcmp P d) fs b))=true:=h1
    have h4:nd (f.name != "_") (nd (kcmp P d f.type a') (cmpFs (kcmp P d) fs b'))=true:=h2
    simp only[nd_iff] at h3 h4
    show (f.name != "_" && eqT P d f.type a.v a'.v&&eqFs (eqT P d) fs b.v b'.v)=true
    rw[h3.1,ih _ _ _ h3.2.1 h4.2.1,cmpFs_s ih fs b b' h3.2.2 h4.2.2]; rfl
omit [KGl] in
theorem kcmp_arr {P:Program}{d n:Nat}{t e:TypeId}{v:KV}(hu:P.underlying t=some (.array n e)) (h:kcmp P (d + 1) t v=true):∃ f,v.v=.arr n f∧∀ i,i < n→∃ x:KV,x.v=f i∧kcmp P d e x=true:=by
  unfold kcmp at h
  rw[hu] at h
  simp only at h
  split at h
  · rename_i k m x
    obtain⟨h1,h2⟩:=nd_iff.1 h
    obtain rfl:=beqE h1
    split at h2
    · rename_i k' he
      obtain⟨h3,h4⟩:=nd_iff.1 h2
      refine⟨_,rfl,fun i _=>⟨.int k (pkg k x i),rfl,?_⟩⟩
      rw[nblt] at h4
      cases d with
      | zero=>omega
      | succ d=>unfold kcmp; rw[he]; exact h3
    · cases h2
  · rename_i m d' t'
    obtain⟨h1,h2⟩:=nd_iff.1 h
    obtain rfl:=beqE h1
    exact⟨_,rfl,fun i hi=>⟨kidx i (.ar n d' t'),by rw[kidx_v]; rfl,allB_s h2 i hi⟩⟩
  · cases h
omit [KGl] in
theorem kcmp_s {P:Program}:∀(d:Nat) (t:TypeId) (v w:KV),kcmp P d t v=true→kcmp P d t w=true→eqT P d t v.v w.v=true
  | 0,_,_,_,h,_=>by cases h
  | d + 1,t,v,w,h1,h2=>by
    have ih:=kcmp_s (P:=P) d
    cases hu:P.underlying t with
    | none=>unfold kcmp at h1; rw[hu] at h1; cases h1
    | some x =>
      cases x
      case array n e =>
        obtain⟨f,hf,q1⟩:=kcmp_arr hu h1
        obtain⟨g,hg,q2⟩:=kcmp_arr hu h2
        unfold eqT
        rw[hu,hf,hg]
        simp only[beq_self_eq_true,Bool.true_and,List.all_eq_true,List.mem_range]
        intro i hi
        obtain⟨a,ha,ha'⟩:=q1 i hi
        obtain⟨b,hb,hb'⟩:=q2 i hi
        rw[←ha,←hb]
        exact ih _ _ _ ha' hb'
      case struct fs =>
        unfold kcmp at h1 h2
        unfold eqT
        rw[hu] at h1 h2 ⊢
        simp only[nd_iff] at h1 h2 ⊢
        rw[h1.1,cmpFs_s ih _ _ _ h1.2 h2.2]; rfl
      case int k =>
        unfold kcmp at h1 h2
        unfold eqT
        rw[hu] at h1 h2 ⊢
        simp only at h1 h2 ⊢
        split at h1
        · split at h2
          · have a:=ikEq_eq h1; have b:=ikEq_eq h2; subst a; subst b; simp [v_int]
          · cases h2
        · cases h1
      case bool =>
        unfold kcmp at h1 h2
        unfold eqT
        rw[hu] at h1 h2 ⊢
        simp only at h1 h2 ⊢
        split at h1
        · split at h2
          · rfl
          · cases h2
        · cases h1
      case string =>
        unfold kcmp at h1 h2
        unfold eqT
        rw[hu] at h1 h2 ⊢
        simp only at h1 h2 ⊢
        split at h1
        · split at h2
          · rfl
          · cases h2
        · cases h1
      all_goals (unfold kcmp at h1; rw[hu] at h1; cases h1)
def isAggK (v:KV):Bool:=match v with
  | .nl | .cons _ _ | .pk _ _ _ | .ar _ _ _=>true
  | _=>false
omit [KGl] in
theorem isAggK_s {v:KV}(h:isAggK v=true):v.v.isAgg=true:=by
  cases v<;>first | rfl | cases h
def eqS (P:Program) (t:TypeId):Bool:=nd (lay P 12 t) (!P.eqGuardType P.depth t)
def cmpS (P:Program) (t:TypeId) (v:KV):Bool:=nd (isAggK v) (nd (kcmp P 12 t v) (kfits v (shp P 12 t)))
def kAgg (P:Program) (op:BinOp) (t:TypeId) (x y:KV) (zm:KZ) (nx:Nat) (K:KT):Prop :=
  chk (nd (eqS P t) (nd (cmpS P t x) (cmpS P t y))) 64 (os 65 (fun b=>eqn op b fun r=>K (.bool r) zm nx [] []) (keq 24 x y))
def isNilK (v:KV):Option Bool:=match v with
  | .nilp=>some true
  | .ptr _ _ _=>some false
  | .ref _ _ _=>some false
  | _=>none
def isPtrT (P:Program) (t:TypeId):Bool:=match P.underlying t with | some (.pointer _)=>true | _=>false
def kBoolB (P:Program) (op:BinOp) (t:TypeId) (a:Bool) (zm:KZ) (nx:Nat) (K:KT) (b:Bool):Prop:=chk (isBoolT P t) 66 (eqn op (beqB a b) fun r=>K (.bool r) zm nx [] [])
def kStrB (op:BinOp) (n x:Nat) (zm:KZ) (nx:Nat) (K:KT) (m y:Nat):Prop:=eqn op (strEq n x m y) fun r=>K (.bool r) zm nx [] []
def kNilB (P:Program) (op:BinOp) (t:TypeId) (x:KV) (zm:KZ) (nx:Nat) (K:KT):Prop:=chk (isPtrT P t) 67 (os 68 (fun b=>eqn op b fun r=>K (.bool r) zm nx [] []) (isNilK x))
def nilsV (m:Mem) (v:V):Option (Bool×List Nat):=match v with
  | .nils=>some (true,[])
  | .ro _ _ _ (_ + 1) _=>some (false,[])
  | .sl _ _ _ _ (_ + 1) _=>some (false,[])
  | .sl _ _ _ _ 0 (some (_ + 1))=>some (false,[])
  | .row id _ (_ + 1)=>match m id with
    | some blk=>if blk.alive then some (false,[id]) else none
    | none=>none
  | _=>none
theorem sem_eq_nils {op:BinOp}{t t' e:TypeId}{x y:Operand}{ρ:Operand→V}{m:Mem}{n:Nat}{b:Bool}{rd:List Nat}(ho:o.op=.binOp op t x y t') (hop:op=.eql∨op=.neq) (hx:nilsV m (ρ x)=some (b,rd)) (hy:ρ y=.nils) (hu:P.underlying t=some (.slice e)) :
    OpSem P B o ρ m n ⟨.bool (if op=.eql then b else !b),[],[],rd⟩ :=
  OpSem.pure fun C M ρc hs hr hrel=>by
    have h0:=hrel x (by simp [ho,Op.operands])
    have h1:=hrel y (by simp [ho,Op.operands])
    rw[hy] at h1
    have h1':ρc y=.slice none 0 0:=h1
    obtain⟨a,l,c,h2,h3⟩:∃ a l c,ρc x=.slice a l c∧a.isNone=b:=by
      unfold nilsV at hx
      split at hx
      · rename_i hv
        cases hx
        rw[hv] at h0
        exact⟨none,0,0,h0,rfl⟩
      · rename_i hv
        cases hx
        rw[hv] at h0
        obtain⟨a,c,q1,q2,q3,q4⟩:=h0
        rcases q4 with q4 | ⟨g,o,rfl,_⟩
        · cases q4
        · exact⟨_,_,_,q1,rfl⟩
      · rename_i hv
        cases hx
        rw[hv] at h0
        obtain⟨hal,ad,c,o1,n1,q1,q2,q3,q4,q5,q6⟩:=h0
        rcases q6 with q6 | ⟨g,_,rfl⟩
        · omega
        · exact⟨_,_,_,q1,rfl⟩
      · rename_i hv
        cases hx
        rw[hv] at h0
        obtain⟨hal,ad,c,o1,n1,q1,q2,q3,q4,q5,q6⟩:=h0
        rcases q6 with q6 | ⟨g,_,rfl⟩
        · have:=q3 _ rfl; omega
        · exact⟨_,_,_,q1,rfl⟩
      · rename_i id e' k hv
        split at hx
        · rename_i blk hm
          split at hx
          · rename_i hal
            cases hx
            rw[hv] at h0
            obtain⟨hal',⟨a,c,q1⟩,q2,q3⟩:=h0
            have hM:M id=some blk:=by rw[hr id (by simp),hm]
            have hbr:=hs.mem id blk hM
            unfold BR at hbr; unfold Blk.alive at hal
            refine⟨a,k + 1,c,by rw[←q1]; exact q3,?_⟩
            cases hkd:blk.k<;>simp only[hkd] at hbr hal
            · obtain⟨g,cur,e',h4,_⟩:=hbr
              rw[q1] at h4; cases h4
            · obtain⟨n1,s1,cells,h4,h5,h6,_⟩:=hbr
              rcases h6.2 with ⟨h7,h8⟩ | ⟨g,cap,cur,hv,_⟩
              · rw[q1] at h7; cases h7
              · rw[q1] at hv; cases hv; rfl
            · simp at hal
            · simp at hal
            · simp at hal
          · cases hx
        · cases hx
      · cases hx
    have he:∀ w,(Op.equal t (.slice a l c) (.slice none 0 0)).run P w=.ok a.isNone w:=fun w=>by
      show (Op.equalIn (9999 + 1) t (.slice a l c) (.slice none 0 0)).run P w=.ok a.isNone w
      generalize 9999=d
      cases a<;>simp [Op.equalIn,run_underlying hu]
    rcases hop with rfl | rfl
    · exact⟨.bool b,by simp [execOp,ho,h1',h2,eqGuard,binOp,he,h3],rfl⟩
    · exact⟨.bool (!b),by simp [execOp,ho,h1',h2,eqGuard,binOp,he,h3],rfl⟩
def isSlT (P:Program) (t:TypeId):Bool:=match P.underlying t with | some (.slice _)=>true | _=>false
def kNilS (P:Program) (op:BinOp) (t:TypeId) (x:KV) (zm:KZ) (nx:Nat) (K:KT):Prop :=
  chk (isSlT P t) 241 (onNils (eqn op true fun r=>K (.bool r) zm nx [] [])
    (onRo (fun _ _ _ _ len _=>chk (Nat.blt 0 len) 242 (eqn op false fun r=>K (.bool r) zm nx [] []))
      (onSl (fun _ _ _ _ len cap=>chk (Nat.blt 0 (@Option.rec Nat (fun _=>Nat) len (fun k=>Nat.add len k) cap)) 243 (eqn op false fun r=>K (.bool r) zm nx [] []))
        (onRow (fun id _ len=>oB zm id fun kd _ _=>chk (nd (isAl kd) (Nat.blt 0 len)) 244 (eqn op false fun r=>K (.bool r) zm nx [] [id])) (BadN 245) x) x) x) x)
theorem kNilS_s {op:BinOp}{t t':TypeId}{x y:Operand}(ho:o.op=.binOp op t x y t') (hy0:kev τ y=.nils) (h:kNilS P op t (kev τ x) zm nx K):Out P B o τ lo zm nx K:=by
  have hx:=kev_v τ x
  have hy:=kev_v τ y
  rw[hy0] at hy
  obtain⟨h1,h2⟩:=chk_inv h
  obtain⟨e,hu⟩:∃ e,P.underlying t=some (.slice e):=by
    unfold isSlT at h1
    split at h1
    · exact⟨_,‹_›⟩
    · cases h1
  have fin:∀(b:Bool) (rd:List Nat),(eqn op b fun r=>K (.bool r) zm nx [] rd)→nilsV (am zm) (opv Gl.G (tv' τ) x)=some (b,rd)→(∀ id∈rd,∃ b,am zm id=some b)→Out P B o τ lo zm nx K:=by
    intro b rd hk hn hrd
    rcases eqn_inv hk with ⟨rfl,h5⟩ | ⟨rfl,h5⟩
    · exact Out.pure h5 ⟨sem_eq_nils (ρ:=opv Gl.G (tv' τ)) (m:=am zm) (n:=nx) ho (.inl rfl) hn hy.symm hu,UpIn.rdL hrd⟩ (by rw[v_bool]; exact EImp.refl _)
    · exact Out.pure h5 ⟨sem_eq_nils (ρ:=opv Gl.G (tv' τ)) (m:=am zm) (n:=nx) ho (.inr rfl) hn hy.symm hu,UpIn.rdL hrd⟩ (by rw[v_bool]; exact EImp.refl _)
  rcases onNils_inv h2 with ⟨hp,h3⟩ | ⟨_,h2⟩
  · rw[hp] at hx
    exact fin true [] h3 (by rw[←hx]; rfl) (fun _ h=>(by cases h))
  rcases onRo_inv h2 with ⟨u,cl,s,off,len,c,hp,h3⟩ | ⟨_,h2⟩
  · obtain⟨h4,h5⟩:=chk_inv h3
    rw[hp] at hx
    rw[nblt] at h4
    obtain⟨k,rfl⟩:∃ k,len=k + 1:=⟨len - 1,by omega⟩
    exact fin false [] h5 (by rw[←hx]; rfl) (fun _ h=>(by cases h))
  rcases onSl_inv h2 with ⟨id,p,s,off,len,cap,hp,h3⟩ | ⟨_,h2⟩
  · obtain⟨h4,h5⟩:=chk_inv h3
    rw[hp] at hx
    rw[nblt] at h4
    refine fin false [] h5 ?_ (fun _ h=>(by cases h))
    rw[←hx]
    cases len with
    | succ k=>rfl
    | zero =>
      cases cap with
      | none=>exact absurd h4 (Nat.lt_irrefl 0)
      | some k =>
        cases k with
        | zero=>exact absurd h4 (Nat.lt_irrefl 0)
        | succ k=>rfl
  rcases onRow_inv h2 with ⟨id,s,len,hp,h3⟩ | ⟨_,h2⟩
  · obtain⟨kd,sh,v,hb,h4⟩:=oB_inv h3
    obtain⟨h5,h6⟩:=chk_inv h4
    obtain⟨q1,q2⟩:=nd_iff.1 h5
    rw[hp] at hx
    rw[nblt] at q2
    obtain⟨k,rfl⟩:∃ k,len=k + 1:=⟨len - 1,by omega⟩
    refine fin false [id] h6 ?_ (fun i hi=>by rw[List.mem_singleton] at hi; subst hi; exact⟨_,am_some hb⟩)
    rw[←hx]
    show nilsV (am zm) (.row id s (k + 1))=_
    unfold nilsV
    simp only[am_some hb,KBlk.b,isAl_eq,q1,if_true]
  · exact h2.elim
def kBin (P:Program) (op:BinOp) (t:TypeId) (x y:KV) (zm:KZ) (nx:Nat) (K:KT):Prop :=
  onInt (fun k a=>onInt (kNumB op k a zm nx K) (BadN 69) y)
    (onBool (fun a=>onBool (kBoolB P op t a zm nx K) (BadN 70) y)
      (onStr (fun n s=>onStr (kStrB op n s zm nx K) (BadN 71) y)
        (onNilp (kNilB P op t x zm nx K) (onNils (kNilS P op t x zm nx K) (kAgg P op t x y zm nx K) y) y) x) x) x
omit [KGl] in
theorem yBinA_nil {v:V}{b:Bool}{t e:TypeId}(h1:∀ s,v≠.str s) (h2:v.isNilp=some b) (hu:P.underlying t=some (.pointer e)):(yBinA P .eql t v .nilp).is (pureE (.bool b)):=by
  have:yBinA P .eql t v .nilp=okE (.bool b):=by
    cases v<;>first
      | exact absurd rfl (h1 _)
      | (cases h2; done)
      | (simp only[V.isNilp,Option.some.injEq] at h2; subst h2; simp [yBinA,strB,yBinS,hu,V.isNilp])
  rw[this]; rfl
omit [KGl] in
theorem yBinA_nil' {v:V}{b:Bool}{t e:TypeId}(h1:∀ s,v≠.str s) (h2:v.isNilp=some b) (hu:P.underlying t=some (.pointer e)):(yBinA P .neq t v .nilp).is (pureE (.bool !b)):=by
  have:yBinA P .neq t v .nilp=okE (.bool !b):=by
    cases v<;>first
      | exact absurd rfl (h1 _)
      | (cases h2; done)
      | (simp only[V.isNilp,Option.some.injEq] at h2; subst h2; simp [yBinA,strB,yBinS,hu,V.isNilp])
  rw[this]; rfl
theorem kBin_s {op:BinOp}{t t':TypeId}{x y:Operand}(ho:o.op=.binOp op t x y t') (h:kBin P op t (kev τ x) (kev τ y) zm nx K):Out P B o τ lo zm nx K:=by
  have hx:=kev_v τ x
  have hy:=kev_v τ y
  rcases onInt_inv h with ⟨k,a,ha,h1⟩ | ⟨_,h1⟩
  · rcases onInt_inv h1 with ⟨k',b,hb,h2⟩ | ⟨_,h2⟩
    · exact kNum_s ho ha hb h2
    · exact h2.elim
  rcases onBool_inv h1 with ⟨a,ha,h1⟩ | ⟨_,h1⟩
  · rcases onBool_inv h1 with ⟨b,hb,h2⟩ | ⟨_,h2⟩
    · obtain⟨h3,h4⟩:=chk_inv h2
      rw[ha] at hx; rw[hb] at hy
      have hu:P.underlying t=some .bool:=by
        unfold isBoolT at h3
        split at h3
        · assumption
        · cases h3
      rcases eqn_inv h4 with ⟨rfl,h5⟩ | ⟨rfl,h5⟩
      · refine Out.pure h5 (yBinA_s (e:=pureE (.bool (a==b))) ho ?_) (by rw[v_bool,beqB_eq]; exact EImp.refl _)
        rw[←hx,←hy]
        show (yBinA P _ t (.bool a) (.bool b)).is _
        rw[yBinA_bool]
        simp only[yBin,hu]; rfl
      · refine Out.pure h5 (yBinA_s (e:=pureE (.bool (!(a==b)))) ho ?_) (by rw[v_bool,beqB_eq]; exact EImp.refl _)
        rw[←hx,←hy]
        show (yBinA P _ t (.bool a) (.bool b)).is _
        rw[yBinA_bool]
        simp only[yBin,hu]; rfl
    · exact h2.elim
  rcases onStr_inv h1 with ⟨n,a,ha,h1⟩ | ⟨_,h1⟩
  · rcases onStr_inv h1 with ⟨m,b,hb,h2⟩ | ⟨_,h2⟩
    · rw[ha] at hx; rw[hb] at hy
      rcases eqn_inv h2 with ⟨rfl,h5⟩ | ⟨rfl,h5⟩
      · refine Out.pure h5 (yBinA_s (e:=pureE (.bool (lbeq (bytesOf n a).data.toList (bytesOf m b).data.toList))) ho ?_) (by rw[v_bool,strEq_eq]; exact EImp.refl _)
        rw[←hx,←hy]; rfl
      · refine Out.pure h5 (yBinA_s (e:=pureE (.bool !(lbeq (bytesOf n a).data.toList (bytesOf m b).data.toList))) ho ?_) (by rw[v_bool,strEq_eq]; exact EImp.refl _)
        rw[←hx,←hy]; rfl
    · exact h2.elim
  rcases onNilp_inv h1 with ⟨hb,h1⟩ | ⟨hny,h1⟩
  · obtain⟨h3,h4⟩:=chk_inv h1
    obtain⟨b,h5,h6⟩:=os_inv h4
    rw[hb] at hy
    obtain⟨e,hu⟩:∃ e,P.underlying t=some (.pointer e):=by
      unfold isPtrT at h3
      split at h3
      · exact⟨_,‹_›⟩
      · cases h3
    have hn:(kev τ x).v.isNilp=some b∧∀ s,(kev τ x).v≠.str s:=by
      unfold isNilK at h5
      split at h5
      · rename_i hv; cases h5; rw[hv]; exact⟨rfl,fun s hs=>by cases hs⟩
      · rename_i hv; cases h5; rw[hv]; exact⟨rfl,fun s hs=>by cases hs⟩
      · rename_i hv; cases h5; rw[hv]; exact⟨rfl,fun s hs=>by cases hs⟩
      · cases h5
    rcases eqn_inv h6 with ⟨rfl,h7⟩ | ⟨rfl,h7⟩
    · refine Out.pure h7 (yBinA_s (e:=pureE (.bool b)) ho ?_) (EImp.refl _)
      rw[←hx,←hy,v_nilp]
      exact yBinA_nil hn.2 hn.1 hu
    · refine Out.pure h7 (yBinA_s (e:=pureE (.bool !b)) ho ?_) (EImp.refl _)
      rw[←hx,←hy,v_nilp]
      exact yBinA_nil' hn.2 hn.1 hu
  rcases onNils_inv h1 with ⟨hb,h1⟩ | ⟨_,h1⟩
  · exact kNilS_s ho hb h1
  · obtain⟨h3,h4⟩:=chk_inv h1
    obtain⟨b,h5,h6⟩:=os_inv h4
    simp only[nd_iff,eqS,cmpS] at h3
    obtain⟨⟨q1,q2⟩,⟨p1,p2,p3⟩,r1,r2,r3⟩:=h3
    have hv:eqV (kev τ x).v (kev τ y).v=b:=keq_s _ _ _ _ h5
    have ax:=isAggK_s p1
    have ay:=isAggK_s r1
    have hc:∀ op',(yBinA P op' t (kev τ x).v (kev τ y).v)=(match op' with
      | .eql=>okE (.bool b)
      | .neq=>okE (.bool !b)
      | _=>.bad):=by
      intro op'
      have e1:yBinA P op' t (kev τ x).v (kev τ y).v=yBin P op' t (kev τ x).v (kev τ y).v:=by
        unfold yBinA
        have:strB (kev τ x).v (kev τ y).v=false:=by
          cases hvx:(kev τ x).v<;>rw[hvx] at ax<;>first | (cases ax; done) | skip
          all_goals (cases hvy:(kev τ y).v<;>rw[hvy] at ay<;>first | (cases ay; done) | rfl)
        rw[this]
      rw[e1]
      unfold yBin
      split
      · rename_i e2 _; rw[e2] at ax; cases ax
      · rename_i e2 _; rw[e2] at ax; cases ax
      · rw[ax,ay,q1,kcmp_s _ _ _ _ p2 r2,(kfits_s p3).1,(kfits_s r3).1,q2,hv]; rfl
    rcases eqn_inv h6 with ⟨rfl,h7⟩ | ⟨rfl,h7⟩
    · exact Out.pure h7 (yBinA_s (e:=pureE (.bool b)) ho (by rw[←hx,←hy,hc]; rfl)) (EImp.refl _)
    · exact Out.pure h7 (yBinA_s (e:=pureE (.bool !b)) ho (by rw[←hx,←hy,hc]; rfl)) (EImp.refl _)
def kUn (op:UnOp) (x:KV) (zm:KZ) (nx:Nat) (K:KT):Prop:=@UnOp.rec (fun _=>KV→(KV→Prop)→Prop)
  (fun x K=>onInt (fun k a=>fI (k.wrap (0 - a)) fun r=>K (.int k r)) (BadN 72) x) (fun x K=>onInt (fun k a=>fI (notI k a) fun r=>K (.int k r)) (BadN 73) x)
  (fun x K=>onBool (fun b=>fB (!b) fun r=>K (.bool r)) (BadN 74) x) (fun _ _=>BadN 75) op x fun r=>K r zm nx [] []
theorem kUn_s {op:UnOp}{t:TypeId}{x:Operand}(ho:o.op=.unOp op t x) (h:kUn op (kev τ x) zm nx K):Out P B o τ lo zm nx K:=by
  have hx:=kev_v τ x
  cases op
  · rcases onInt_inv (show onInt (fun k a=>fI (k.wrap (0 - a)) fun r=>K (.int k r) zm nx [] []) (BadN 72) (kev τ x) from h) with ⟨k,a,ha,h1⟩ | ⟨_,h1⟩
    · rw[fI_eq] at h1
      rw[ha] at hx
      exact Out.pure h1 (yUn_s (e:=pureE _) ho (by rw[←hx]; rfl)) (EImp.refl _)
    · exact h1.elim
  · rcases onInt_inv (show onInt (fun k a=>fI (notI k a) fun r=>K (.int k r) zm nx [] []) (BadN 73) (kev τ x) from h) with ⟨k,a,ha,h1⟩ | ⟨_,h1⟩
    · rw[fI_eq] at h1
      rw[ha] at hx
      exact Out.pure h1 (yUn_s (e:=pureE _) ho (by rw[←hx]; rfl)) (EImp.refl _)
    · exact h1.elim
  · rcases onBool_inv (show onBool (fun b=>fB (!b) fun r=>K (.bool r) zm nx [] []) (BadN 74) (kev τ x) from h) with ⟨b,ha,h1⟩ | ⟨_,h1⟩
    · rw[fB_eq] at h1
      rw[ha] at hx
      exact Out.pure h1 (yUn_s (e:=pureE _) ho (by rw[←hx]; rfl)) (EImp.refl _)
    · exact h1.elim
  · exact (show BadN 75 from h).elim
end
end
end Go.K
namespace Go.K
open Go.Ab Go.RowKit Go.Y
noncomputable section
variable [KGl]
section
variable {P:Program}{B:Nat}{o:Oper}{τ:Nat→KV}{lo:Nat}{zm:KZ}{nx:Nat}{K:KT}
def knth (k:Nat):KV→(KV→Prop)→Prop:=@Nat.rec (fun _=>KV→(KV→Prop)→Prop) (fun l K=>onCons (fun h _=>K h) (BadN 80) l) (fun _ ih l K=>onCons (fun _ t=>ih t K) (BadN 80) l) k
omit [KGl] in
theorem knth_s:∀(k:Nat) (l:KV) (K:KV→Prop),knth k l K→∃ v,K v∧l.v.nth k=some v.v
  | 0,l,K,h=>by
    rcases onCons_inv (show onCons (fun h _=>K h) (BadN 80) l from h) with ⟨a,b,rfl,h1⟩ | ⟨_,h1⟩
    · exact⟨a,h1,rfl⟩
    · exact h1.elim
  | k + 1,l,K,h=>by
    rcases onCons_inv (show onCons (fun _ t=>knth k t K) (BadN 80) l from h) with ⟨a,b,rfl,h1⟩ | ⟨_,h1⟩
    · exact knth_s k b K h1
    · exact h1.elim
def kExtract (x:KV) (k:Nat) (zm:KZ) (nx:Nat) (K:KT):Prop:=onTup (fun l=>knth k l fun v=>K v zm nx [] []) (BadN 81) x
theorem kExtract_s {x:Operand}{k:Nat}(ho:o.op=.extract x k) (h:kExtract (kev τ x) k zm nx K):Out P B o τ lo zm nx K:=by
  have hx:=kev_v τ x
  rcases onTup_inv h with ⟨l,hl,h1⟩ | ⟨_,h1⟩
  · obtain⟨v,h2,h3⟩:=knth_s k l _ h1
    rw[hl] at hx
    exact Out.pure h2 (yExtract_s (e:=pureE v.v) ho (by rw[←hx]; show (yExtract (.tup l.v) k).is _; simp only[yExtract,h3]; rfl)) (EImp.refl _)
  · exact h1.elim
def kPick (c a b:KV) (zm:KZ) (nx:Nat) (K:KT):Prop:=onBool (fun t=>alt t (K a zm nx [] []) (K b zm nx [] [])) (BadN 82) c
theorem kPick_s {c a b:Operand}(ho:o.op=.pick c a b) (h:kPick (kev τ c) (kev τ a) (kev τ b) zm nx K):Out P B o τ lo zm nx K:=by
  have hx:=kev_v τ c
  rcases onBool_inv h with ⟨t,ht,h1⟩ | ⟨_,h1⟩
  · rw[ht] at hx
    cases t with
    | true=>exact Out.pure (v:=kev τ a) h1 (yPick_s (e:=pureE (kev τ a).v) ho (by rw[←hx,←kev_v,←kev_v]; show (okE (V.ite true _ _)).is _; rw[V.ite_true]; rfl)) (EImp.refl _)
    | false=>exact Out.pure (v:=kev τ b) h1 (yPick_s (e:=pureE (kev τ b).v) ho (by rw[←hx,←kev_v,←kev_v]; show (okE (V.ite false _ _)).is _; rw[V.ite_false]; rfl)) (EImp.refl _)
  · exact h1.elim
def kmkL (l:List KV):KV:=@List.rec KV (fun _=>KV) .nl (fun x _ ih=>.cons x ih) l
omit [KGl] in
theorem kmkL_v:∀(l:List KV),(kmkL l).v=mkL (l.map KV.v)
  | []=>rfl
  | x::l=>by show V.cons x.v (kmkL l).v=V.cons x.v (mkL (l.map KV.v)); rw[kmkL_v l]
def isFn0 (f:Fn):Option FuncId:=match f with
  | .func f=>some f
  | _=>none
theorem sem_makeMap {P:Program}{B:Nat}{o:Oper}{ρ:Operand→V}{m:Mem}{n:Nat}{t:TypeId}(ho:o.op=.makeMap t none):OpSem P B o ρ m n (pureE .unk):=by
  intro C M ρc hsr _ _ hn hrel
  have hrun:(execOp ρc o).run P C.w=.ok (.value (.map (some C.w.heap.size))) (C.w.alloc (.map #[] 0)):=by
    simp only[execOp,ho]
    rfl
  unfold Does
  rw[hrun]
  obtain⟨h1,h2⟩:=hsr.grown (w':=C.w.alloc (.map #[] 0)) ((Below.refl _ C.w).alloc (Nat.le_refl _) _) C.ok (fun u b h=>h) (fun u b h=>.inl (.inl h))
  exact⟨_,rfl,trivial,h2,by rw[put_pure]; exact h1,fun id h=>.inl h⟩
def kMakeMap (r:Option Operand) (zm:KZ) (nx:Nat) (K:KT):Prop:=@Option.rec Operand (fun _=>Prop) (K .unk zm nx [] []) (fun _=>BadN 260) r
theorem kMakeMap_s {t:TypeId}{r:Option Operand}(ho:o.op=.makeMap t r) (h:kMakeMap r zm nx K):Out P B o τ lo zm nx K:=by
  cases r with
  | none=>exact Out.pure (v:=.unk) h ⟨sem_makeMap ho,UpIn.nil⟩ (EImp.refl _)
  | some _=>exact (show BadN 260 from h).elim
def kMakeFunc (f:Fn) (a:List KV) (caps:List KV) (zm:KZ) (nx:Nat) (K:KT):Prop:=os 83 (fun f=>chk (Nat.blt f 1073741824) 246 (@List.rec KV (fun _=>Prop) (K (.fn f (kmkL caps)) zm nx [] []) (fun x r _=>fN (Nat.add f 1073741824) fun f=>K (.fn f (.cons (.tup (kmkL (x::r))) (kmkL caps))) zm nx [] []) a)) (isFn0 f)
theorem map_kev (τ:Nat→KV) (l:List Operand):(l.map (kev τ)).map KV.v=l.map (opv Gl.G (tv' τ)):=by
  rw[List.map_map]; exact List.map_congr_left fun x _=>kev_v τ x
theorem kMakeFunc_s {f:Fn}{a cap:Array Operand}(ho:o.op=.makeFunc f a cap) (h:kMakeFunc f (a.toList.map (kev τ)) (cap.toList.map (kev τ)) zm nx K):Out P B o τ lo zm nx K:=by
  obtain⟨g,h1,h20⟩:=os_inv h
  obtain⟨hlt,h2⟩:=chk_inv h20
  clear h20
  rw[Nat.blt_eq] at hlt
  obtain rfl:f=.func g:=by
    unfold isFn0 at h1
    split at h1
    · cases h1; rfl
    · cases h1
  cases ha:a.toList.map (kev τ) with
  | nil =>
    rw[ha] at h2
    obtain rfl:a=#[]:=by
      have:a.toList=[]:=by simpa using ha
      simpa using this
    exact Out.pure (e:=pureE (.fn g (mkL (cap.toList.map (opv Gl.G (tv' τ)))))) (show K (.fn g (kmkL (cap.toList.map (kev τ)))) zm nx [] [] from h2) ⟨sem_makeFunc ho hlt,UpIn.nil⟩ (by rw[v_fn,kmkL_v,map_kev]; exact EImp.refl _)
  | cons x r =>
    have h3:fN (Nat.add g 1073741824) fun f=>K (.fn f (.cons (.tup (kmkL (a.toList.map (kev τ)))) (kmkL (cap.toList.map (kev τ))))) zm nx [] []:=by
      rw[ha] at h2 ⊢
      exact h2
    rw[fN_eq] at h3
    exact Out.pure h3 ⟨sem_makeMeth ho hlt,UpIn.nil⟩ (by
      show EImp _ ⟨.fn (g + 1073741824) (.cons (.tup (kmkL (a.toList.map (kev τ))).v) (kmkL (cap.toList.map (kev τ))).v),[],[],[]⟩
      rw[kmkL_v,kmkL_v,map_kev,map_kev]; exact EImp.refl _)
inductive LnS where
  | sli
  | str
  | arr (k:Nat)
  | bad
def lnS (P:Program) (t:TypeId):LnS:=match P.underlying t with
  | some (.slice _)=>.sli
  | some .string=>.str
  | some (.array k _)=>.arr k
  | _=>.bad
def kSlen (x:KV) (K:Nat→Prop):Prop:=onSl (fun _ _ _ _ len _=>K len) (onRow (fun _ _ n=>K n) (onRo (fun _ _ _ _ len _=>K len) (onNils (K 0) (BadN 84) x) x) x) x
omit [KGl] in
theorem kSlen_s {x:KV}{K:Nat→Prop}(h:kSlen x K):∃ n,x.v.len=some n∧K n:=by
  rcases onSl_inv h with ⟨_,_,_,_,len,_,rfl,h1⟩ | ⟨_,h1⟩
  · exact⟨_,rfl,h1⟩
  rcases onRow_inv h1 with ⟨_,_,n,rfl,h1⟩ | ⟨_,h1⟩
  · exact⟨_,rfl,h1⟩
  rcases onRo_inv h1 with ⟨_,_,_,_,len,_,rfl,h1⟩ | ⟨_,h1⟩
  · exact⟨_,rfl,h1⟩
  rcases onNils_inv h1 with ⟨rfl,h1⟩ | ⟨_,h1⟩
  · exact⟨_,rfl,h1⟩
  · exact h1.elim
def kLenV (x:KV) (zm:KZ) (nx:Nat) (K:KT) (s:LnS):Prop:=@LnS.rec (fun _=>Prop) (kSlen x fun n=>fN n fun n=>K (.int .i64 (.ofNat n)) zm nx [] []) (onStr (fun n _=>fN n fun n=>K (.int .i64 (.ofNat n)) zm nx [] []) (BadN 85) x) (fun k=>K (.int .i64 (.ofNat k)) zm nx [] []) (BadN 86) s
def kLen (P:Program) (t:TypeId) (x:KV) (zm:KZ) (nx:Nat) (K:KT):Prop:=kLenV x zm nx K (lnS P t)
theorem kLen_s {t:TypeId}{x:Operand}(ho:o.op=.call ⟨.builtin .len,#[x],#[t]⟩) (h:kLen P t (kev τ x) zm nx K):Out P B o τ lo zm nx K:=by
  have hx:=kev_v τ x
  unfold kLen lnS at h
  split at h
  · rename_i e hu
    obtain⟨n,h1,h2⟩:=kSlen_s (show kSlen (kev τ x) _ from h)
    rw[fN_eq] at h2
    exact Out.pure h2 (yLen_s (e:=pureE (.int .i64 n)) ho (by rw[←hx]; unfold yLen; simp only[hu,h1]; rfl)) (EImp.refl _)
  · rename_i hu
    rcases onStr_inv (show onStr (fun n _=>fN n fun n=>K (.int .i64 (.ofNat n)) zm nx [] []) (BadN 85) (kev τ x) from h) with ⟨n,s,hs,h1⟩ | ⟨_,h1⟩
    · rw[fN_eq] at h1
      rw[hs] at hx
      have hsz:(bytesOf n s).size=n:=by show ((List.range n).map _).length=n; simp
      exact Out.pure h1 (yLen_s (e:=pureE (.int .i64 ((bytesOf n s).size:Nat))) ho (by rw[←hx]; unfold yLen; simp only[hu,v_str]; rfl)) (by rw[hsz]; exact EImp.refl _)
    · exact h1.elim
  · rename_i k e hu
    exact Out.pure (v:=.int .i64 (.ofNat k)) h (yLen_s (e:=pureE (.int .i64 k)) ho (by unfold yLen; simp only[hu]; rfl)) (EImp.refl _)
  · exact (show BadN 86 from h).elim
def isSliT (P:Program) (t:TypeId):Bool:=match P.underlying t with | some (.slice _)=>true | _=>false
omit [KGl] in
theorem isSliT_s {t:TypeId}(h:isSliT P t=true):∃ e,P.underlying t=some (.slice e):=by
  unfold isSliT at h
  split at h
  · exact⟨_,‹_›⟩
  · cases h
def kCap (P:Program) (t:TypeId) (x:KV) (zm:KZ) (nx:Nat) (K:KT):Prop:=chk (isSliT P t) 87
  (onSl (fun _ _ _ _ _ cap=>os 88 (fun n=>fN n fun n=>K (.int .i64 (.ofNat n)) zm nx [] []) cap) (onRo (fun _ clip _ _ len _=>chk clip 89 (fN len fun n=>K (.int .i64 (.ofNat n)) zm nx [] [])) (onNils (K (.int .i64 0) zm nx [] []) (BadN 90) x) x) x)
theorem kCap_s {t:TypeId}{x:Operand}(ho:o.op=.call ⟨.builtin .cap,#[x],#[t]⟩) (h:kCap P t (kev τ x) zm nx K):Out P B o τ lo zm nx K:=by
  have hx:=kev_v τ x
  obtain⟨h0,h1⟩:=chk_inv h
  obtain⟨e,hu⟩:=isSliT_s h0
  rcases onSl_inv h1 with ⟨_,_,_,_,_,cap,hp,h1⟩ | ⟨_,h1⟩
  · obtain⟨n,rfl,h2⟩:=os_inv h1
    rw[fN_eq] at h2
    rw[hp] at hx
    exact Out.pure h2 (yCap_s (e:=pureE (.int .i64 n)) ho (by rw[←hx]; unfold yCap; simp only[hu,v_sl,V.cap]; rfl)) (EImp.refl _)
  rcases onRo_inv h1 with ⟨_,clip,_,_,len,_,hp,h1⟩ | ⟨_,h1⟩
  · obtain⟨rfl,h2⟩:=chk_inv h1
    rw[fN_eq] at h2
    rw[hp] at hx
    exact Out.pure h2 (yCap_s (e:=pureE (.int .i64 len)) ho (by rw[←hx]; unfold yCap; simp only[hu,v_ro,V.cap]; rfl)) (EImp.refl _)
  rcases onNils_inv h1 with ⟨hp,h1⟩ | ⟨_,h1⟩
  · rw[hp] at hx
    exact Out.pure h1 (yCap_s (e:=pureE (.int .i64 (0:Nat))) ho (by rw[←hx]; unfold yCap; simp only[hu,v_nils,V.cap]; rfl)) (EImp.refl _)
  · exact h1.elim
def kMin (x y:KV) (zm:KZ) (nx:Nat) (K:KT):Prop:=onInt (fun k a=>onInt (fun _ b=>fI (bif ltI b a then b else a) fun r=>K (.int k r) zm nx [] []) (BadN 91) y) (BadN 92) x
theorem kMin_s {ts:Array TypeId}{x y:Operand}(ho:o.op=.call ⟨.builtin .min,#[x,y],ts⟩) (h:kMin (kev τ x) (kev τ y) zm nx K):Out P B o τ lo zm nx K:=by
  have hx:=kev_v τ x
  have hy:=kev_v τ y
  rcases onInt_inv h with ⟨k,a,ha,h1⟩ | ⟨_,h1⟩
  · rcases onInt_inv h1 with ⟨k',b,hb,h2⟩ | ⟨_,h2⟩
    · rw[fI_eq] at h2
      rw[ha] at hx; rw[hb] at hy
      exact Out.pure h2 (yMin_s (e:=pureE (minV k a b)) ho (by rw[←hx,←hy]; rfl)) (EImp.refl _)
    · exact h2.elim
  · exact h1.elim
theorem sem_max {P:Program}{B:Nat}{o:Oper}{ρ:Operand→V}{m:Mem}{n:Nat}{ts:Array TypeId}{x y:Operand}{k k':IntKind}{a b:Int}(ho:o.op=.call ⟨.builtin .max,#[x,y],ts⟩) (hx:ρ x=.int k a) (hy:ρ y=.int k' b):OpSem P B o ρ m n (pureE (.int k (bif ltI a b then b else a))) :=
  OpSem.pure fun C M ρc _ _ hrel=>by
    obtain⟨rx,ry⟩:=two_rel (ρ:=ρ) ho hrel
    rw[hx] at rx; rw[hy] at ry
    have rx':ρc x=.int k a:=rx
    have ry':ρc y=.int k' b:=ry
    refine⟨.int k (if b > a then b else a),by simp [execOp,ho,resolve,invoke,builtin,rx',ry',Builtin.max_,Builtin.max2],?_⟩
    show Value.int k _=Value.int k _
    rw[ltI_eq]
    by_cases h:a < b<;>simp [h]
def kMax (x y:KV) (zm:KZ) (nx:Nat) (K:KT):Prop:=onInt (fun k a=>onInt (fun _ b=>fI (bif ltI a b then b else a) fun r=>K (.int k r) zm nx [] []) (BadN 91) y) (BadN 92) x
theorem kMax_s {ts:Array TypeId}{x y:Operand}(ho:o.op=.call ⟨.builtin .max,#[x,y],ts⟩) (h:kMax (kev τ x) (kev τ y) zm nx K):Out P B o τ lo zm nx K:=by
  have hx:=kev_v τ x
  have hy:=kev_v τ y
  rcases onInt_inv h with ⟨k,a,ha,h1⟩ | ⟨_,h1⟩
  · rcases onInt_inv h1 with ⟨k',b,hb,h2⟩ | ⟨_,h2⟩
    · rw[fI_eq] at h2
      rw[ha] at hx; rw[hb] at hy
      exact Out.pure h2 ⟨sem_max ho (by rw[←hx]; rfl) (by rw[←hy]; rfl),UpIn.nil⟩ (EImp.refl _)
    · exact h2.elim
  · exact h1.elim
def arN (c:KV) (n:Nat):Bool:=match c with
  | .pk _ m _=>Nat.beq m n
  | .ar m _ _=>Nat.beq m n
  | .fa m _=>Nat.beq m n
  | _=>false
omit [KGl] in
theorem arN_s {c:KV}{n:Nat}(h:arN c n=true):∃ f,c.v=.arr n f:=by
  unfold arN at h
  split at h
  · rw[←beqE h]; exact⟨_,rfl⟩
  · rw[←beqE h]; exact⟨_,rfl⟩
  · rw[←beqE h]; exact⟨_,rfl⟩
  · cases h
def kBnd (d:Nat) (x:Option KV) (K:Int→Prop):Prop:=@Option.rec KV (fun _=>Prop) (K (.ofNat d)) (fun v=>onInt (fun _ n=>K n) (BadN 93) v) x
omit [KGl] in
theorem kBnd_s {d:Nat}{x:Option KV}{K:Int→Prop}(h:kBnd d x K):∃ n,V.bnd d (x.map KV.v)=some n∧K n:=by
  cases x with
  | none=>exact⟨_,rfl,h⟩
  | some v =>
    rcases onInt_inv (show onInt (fun _ n=>K n) (BadN 93) v from h) with ⟨k,n,rfl,h1⟩ | ⟨_,h1⟩
    · exact⟨n,rfl,h1⟩
    · exact h1.elim
def kMx (x:Option KV) (K:Option Int→Prop):Prop:=@Option.rec KV (fun _=>Prop) (K none) (fun v=>onInt (fun _ n=>K (some n)) (BadN 94) v) x
omit [KGl] in
theorem kMx_s {x:Option KV}{K:Option Int→Prop}(h:kMx x K):∃ mv,V.mxb (x.map KV.v)=some mv∧K mv:=by
  cases x with
  | none=>exact⟨_,rfl,h⟩
  | some v =>
    rcases onInt_inv (show onInt (fun _ n=>K (some n)) (BadN 94) v from h) with ⟨k,n,rfl,h1⟩ | ⟨_,h1⟩
    · exact⟨_,rfl,h1⟩
    · exact h1.elim
inductive SlS where
  | sli (z:Nat)
  | arr (n z:Nat)
  | str
  | bad
def slS (P:Program) (t:TypeId):SlS:=match P.underlying t with
  | some (.slice el)=>match P.info? el with
    | some i=>.sli i.size
    | none=>.bad
  | some (.array n el)=>match P.info? el with
    | some i=>.arr n i.size
    | none=>.bad
  | some .string=>.str
  | _=>.bad
def fO (c:Option Nat) (K:Option Nat→Prop):Prop:=@Option.rec Nat (fun _=>Prop) (K none) (fun n=>fN n fun n=>K (some n)) c
theorem fO_eq (c:Option Nat) (K:Option Nat→Prop):fO c K=K c:=by
  cases c with
  | none=>rfl
  | some n=>exact fN_eq n fun n=>K (some n)
def kSlO (id:Nat) (p:List Step) (e:Shape) (off:Nat) (cap:Option Nat) (l h:Int) (mv:Option Int) (zm:KZ) (nx:Nat) (rd:List Nat) (K:KT):Prop :=
  fN (Nat.add off (natI l)) fun o=>fN (Nat.sub (natI h) (natI l)) fun n=>fO (subO (natI l) cap mv) fun c=>K (.sl id p e o n c) zm nx [] rd
def kSlL (z:Nat) (l:Int) (hi:Option KV) (mv:Option Int) (zm:KZ) (nx:Nat) (K:KT) (id:Nat) (p:List Step) (e:Shape) (off len:Nat) (cap:Option Nat):Prop :=
  kBnd len hi fun h=>chk (Nat.beq z e.size) 95 (cnd (slB l h len mv) (kSlO id p e off cap l h mv zm nx [] K))
def kSlW (z:Nat) (l:Int) (hi:Option KV) (mv:Option Int) (zm:KZ) (nx:Nat) (K:KT) (id:Nat) (e:Shape) (len:Nat):Prop :=
  oB zm id fun k _ _=>kBnd len hi fun h=>chk (nd (isAl k) (Nat.beq z e.size)) 96 (cnd (slB l h len mv) (kSlO id [] e 0 none l h mv zm nx [id] K))
def kSlR (z:Nat) (l:Int) (hi:Option KV) (mv:Option Int) (zm:KZ) (nx:Nat) (K:KT) (u clip:Bool) (e:Shape) (off len:Nat) (c:KV):Prop :=
  kBnd len hi fun h=>chk (Nat.beq z e.size) 97 (cnd (slB l h len mv) (fN (Nat.add off (natI l)) fun o=>fN (Nat.sub (natI h) (natI l)) fun n=>fB (clipV clip len h mv) fun cl=>K (.ro u cl e o n c) zm nx [] []))
def kSlN (l:Int) (hi:Option KV) (mv:Option Int) (zm:KZ) (nx:Nat) (K:KT):Prop:=kBnd 0 hi fun h=>cnd (slB l h 0 mv) (K .nils zm nx [] [])
def kSl (z:Nat) (x:KV) (l:Int) (hi:Option KV) (mv:Option Int) (zm:KZ) (nx:Nat) (K:KT):Prop :=
  onSl (kSlL z l hi mv zm nx K) (onRow (kSlW z l hi mv zm nx K) (onRo (kSlR z l hi mv zm nx K) (onNils (kSlN l hi mv zm nx K) (BadN 99) x) x) x) x
def kSaP (n z:Nat) (l:Int) (hi:Option KV) (mv:Option Int) (zm:KZ) (nx:Nat) (K:KT) (id:Nat) (p:List Step) (s:Shape):Prop :=
  shA s (fun n' e=>kBnd n hi fun h=>chk (nd (Nat.beq n' n) (Nat.beq z e.size)) 100 (cnd (slB l h n mv) (kSlO id p e 0 (some n) l h mv zm nx [] K))) (BadN 101)
def kSaR (n z:Nat) (l:Int) (hi:Option KV) (mv:Option Int) (zm:KZ) (nx:Nat) (K:KT) (u:Bool) (s:Shape) (c:KV):Prop :=
  shA s (fun n' e=>kBnd n hi fun h=>chk (nd (Nat.beq n' n) (nd (Nat.beq z e.size) (arN c n))) 102 (cnd (slB l h n mv) (fN (natI l) fun o=>fN (Nat.sub (natI h) (natI l)) fun m=>fB (clipV true n h mv) fun cl=>K (.ro u cl e o m c) zm nx [] []))) (BadN 103)
def kSa (n z:Nat) (x:KV) (l:Int) (hi:Option KV) (mv:Option Int) (zm:KZ) (nx:Nat) (K:KT):Prop :=
  onPtr (kSaP n z l hi mv zm nx K) (onRef (kSaR n z l hi mv zm nx K) (BadN 104) x) x
def kSs (x:KV) (l:Int) (hi:Option KV) (mv:Option Int) (zm:KZ) (nx:Nat) (K:KT):Prop :=
  onStr (fun n s=>@Option.rec Int (fun _=>Prop) (kBnd n hi fun h=>cnd (slB l h n none) (fN (Nat.sub (natI h) (natI l)) fun m=>fN (pkx .u8 s (natI l) m) fun y=>K (.str m y) zm nx [] [])) (fun _=>BadN 105) mv) (BadN 106) x
def opB (mx hi:Option KV):Bool:=mx.isNone||hi.isSome
def kSlice (P:Program) (t:TypeId) (x:KV) (low hi mx:Option KV) (zm:KZ) (nx:Nat) (K:KT):Prop :=
  chk (opB mx hi) 107 (kBnd 0 low fun l=>kMx mx fun mv=>@SlS.rec (fun _=>Prop) (fun z=>kSl z x l hi mv zm nx K) (fun n z=>kSa n z x l hi mv zm nx K) (kSs x l hi mv zm nx K) (BadN 108) (slS P t))
omit [KGl] in
theorem bytes_extract {n x l h:Nat}(h1:l≤h) (h2:h≤n):(bytesOf n x).extract l h=bytesOf (h - l) (pkx .u8 x l (h - l)):=by
  apply ByteArray.ext
  apply Array.ext'
  show (((bytesOf n x).extract l h).data).toList=(List.range (h - l)).map _
  rw[ByteArray.data_extract,Array.toList_extract]
  show List.extract ((List.range n).map fun i=>UInt8.ofNat (pkr .u8 x i)) l h=_
  rw[List.extract_eq_take_drop]
  apply List.ext_getElem?
  intro i
  rw[List.getElem?_take,List.getElem?_map,List.getElem?_drop,List.getElem?_map]
  by_cases hi:i < h - l
  · rw[if_pos hi,List.getElem?_range (by omega),List.getElem?_range hi,Option.map_some,Option.map_some,pkr_pkx hi]
  · rw[if_neg hi,List.getElem?_eq_none (by simp; omega)]; rfl
theorem map_ov {x:Option Operand}:(x.map (kev τ)).map KV.v=x.map (opv Gl.G (tv' τ)):=by
  cases x with
  | none=>rfl
  | some y=>exact congrArg some (kev_v τ y)
theorem opB_v {x y:Option Operand}(h:opB (x.map (kev τ)) (y.map (kev τ))=true):((x.map (opv Gl.G (tv' τ))).isNone||(y.map (opv Gl.G (tv' τ))).isSome)=true:=by
  unfold opB at h
  revert h
  cases x<;>cases y<;>intro h<;>first | rfl | exact h
theorem kSlO_s {id:Nat}{p:List Step}{e:Shape}{off:Nat}{cap:Option Nat}{l h:Int}{mv:Option Int}{rd:List Nat}(hk:kSlO id p e off cap l h mv zm nx rd K) :
    K (.sl id p e (off + l.toNat) (h.toNat - l.toNat) (subO l.toNat cap mv)) zm nx [] rd:=by
  unfold kSlO at hk
  rw[fN_eq,fN_eq,fO_eq,natI_eq,natI_eq] at hk
  exact hk
theorem kSlice_s {t:TypeId}{x:Operand}{low hi mx:Option Operand}(ho:o.op=.slice t x low hi mx) (h:kSlice P t (kev τ x) (low.map (kev τ)) (hi.map (kev τ)) (mx.map (kev τ)) zm nx K):Out P B o τ lo zm nx K:=by
  have hx:=kev_v τ x
  obtain⟨h0,h1⟩:=chk_inv h
  have hob:=opB_v h0
  obtain⟨l,h2,h3⟩:=kBnd_s h1
  obtain⟨mv,h4,h5⟩:=kMx_s h3
  rw[map_ov] at h2 h4
  replace h2:V.bnd 0 (low.map (opv Gl.G (tv' τ)))=some l:=h2
  have fin:∀ {v:KV}{rd:List Nat}{w:V},K v zm nx [] rd→(ySlice P t (opv Gl.G (tv' τ) x) (low.map (opv Gl.G (tv' τ))) (hi.map (opv Gl.G (tv' τ))) (mx.map (opv Gl.G (tv' τ))) (am zm)).is ⟨w,[],[],rd⟩→w=v.v→Out P B o τ lo zm nx K:=fun hk hy hw =>
    Out.pure hk (ySlice_s ho hy) (by rw[hw]; exact EImp.refl _)
  unfold slS at h5
  split at h5
  · rename_i el hu
    split at h5
    · rename_i i hinf
      have h6:kSl i.size (kev τ x) l (hi.map (kev τ)) mv zm nx K:=h5
      rcases onSl_inv h6 with ⟨id,p,e,off,len,cap,hp,h7⟩ | ⟨_,h7⟩
      · obtain⟨h,h8,h9⟩:=kBnd_s h7
        rw[map_ov] at h8
        obtain⟨h10,h11⟩:=chk_inv h9
        obtain⟨h12,h13⟩:=cnd_iff.1 h11
        rw[hp] at hx
        refine fin (kSlO_s h13) ?_ rfl
        unfold ySlice
        rw[if_pos hob,h2,h4,hu,←hx]
        simp only[ySl,hinf,v_sl,beqE h10,if_true,h8]
        exact tstE h12
      rcases onRow_inv h7 with ⟨id,e,len,hp,h7⟩ | ⟨_,h7⟩
      · obtain⟨k,sh,v,hb,h7⟩:=oB_inv h7
        obtain⟨h,h8,h9⟩:=kBnd_s h7
        rw[map_ov] at h8
        obtain⟨h10,h11⟩:=chk_inv h9
        obtain⟨h12,h13⟩:=cnd_iff.1 h11
        rw[nd_iff] at h10
        rw[hp] at hx
        refine fin (w:=.sl id [] e l.toNat (h.toNat - l.toNat) (subO l.toNat none mv)) (kSlO_s h13) ?_ (by rw[Nat.zero_add]; rfl)
        unfold ySlice
        rw[if_pos hob,h2,h4,hu,←hx]
        simp only[ySl,hinf,v_row,am_some hb,KBlk.b,isAl_eq,h10.1,beqE h10.2,and_self,if_true,h8]
        exact tstE h12
      rcases onRo_inv h7 with ⟨u,clip,e,off,len,c,hp,h7⟩ | ⟨_,h7⟩
      · obtain⟨h,h8,h9⟩:=kBnd_s h7
        rw[map_ov] at h8
        obtain⟨h10,h11⟩:=chk_inv h9
        obtain⟨h12,h13⟩:=cnd_iff.1 h11
        rw[fN_eq,fN_eq,fB_eq,natI_eq,natI_eq] at h13
        rw[hp] at hx
        refine fin (w:=.ro u (clipV clip len h mv) e (h.toNat - l.toNat) fun j=>c.v.step (.idx (off + (l.toNat + j)))) h13 ?_ (by
          rw[v_ro]
          congr 1
          funext j
          rw[show Nat.add off l.toNat + j=off + (l.toNat + j) from Nat.add_assoc _ _ _])
        unfold ySlice
        rw[if_pos hob,h2,h4,hu,←hx]
        simp only[ySl,hinf,v_ro,beqE h10,if_true,h8]
        exact tstE h12
      rcases onNils_inv h7 with ⟨hp,h7⟩ | ⟨_,h7⟩
      · obtain⟨h,h8,h9⟩:=kBnd_s h7
        rw[map_ov] at h8
        rw[hp] at hx
        obtain⟨h12,h13⟩:=cnd_iff.1 (show cnd (slB l h 0 mv) (K .nils zm nx [] []) from h9)
        refine fin h13 ?_ rfl
        unfold ySlice
        rw[if_pos hob,h2,h4,hu,←hx]
        simp only[ySl,hinf,v_nils,h8]
        exact tstE h12
      · exact h7.elim
    · exact (show BadN 108 from h5).elim
  · rename_i n el hu
    split at h5
    · rename_i i hinf
      have h6:kSa n i.size (kev τ x) l (hi.map (kev τ)) mv zm nx K:=h5
      rcases onPtr_inv h6 with ⟨id,p,s,hp,h7⟩ | ⟨_,h7⟩
      · obtain⟨n',e,rfl,hq⟩:=shA_inv h7
        obtain⟨h,h8,h9⟩:=kBnd_s hq
        rw[map_ov] at h8
        obtain⟨h10,h11⟩:=chk_inv h9
        obtain⟨h12,h13⟩:=cnd_iff.1 h11
        rw[nd_iff] at h10
        rw[hp] at hx
        refine fin (w:=.sl id p e l.toNat (h.toNat - l.toNat) (subO l.toNat (some n) mv)) (kSlO_s h13) ?_ (by rw[Nat.zero_add]; rfl)
        unfold ySlice
        rw[if_pos hob,h2,h4,hu,←hx]
        simp only[ySla,hinf,v_ptr,beqE h10.1,beqE h10.2,and_self,if_true,h8]
        exact tstE h12
      rcases onRef_inv h7 with ⟨u,s,c,hp,h7⟩ | ⟨_,h7⟩
      · obtain⟨n',e,rfl,hq⟩:=shA_inv h7
        obtain⟨h,h8,h9⟩:=kBnd_s hq
        rw[map_ov] at h8
        obtain⟨h10,h11⟩:=chk_inv h9
        obtain⟨h12,h13⟩:=cnd_iff.1 h11
        rw[fN_eq,fN_eq,fB_eq,natI_eq,natI_eq] at h13
        simp only[nd_iff] at h10
        obtain⟨q1,q2,q3⟩:=h10
        obtain⟨f,hf⟩:=arN_s q3
        obtain rfl:=beqE q1
        rw[hp] at hx
        refine fin (w:=.ro u (clipV true n' h mv) e (h.toNat - l.toNat) fun j=>f (l.toNat + j)) h13 ?_ (by rw[v_ro,hf]; rfl)
        unfold ySlice
        rw[if_pos hob,h2,h4,hu,←hx]
        simp only[ySla,hinf,v_ref,hf,beqE q2,and_self,if_true,h8]
        exact tstE h12
      · exact h7.elim
    · exact (show BadN 108 from h5).elim
  · rename_i hu
    have h6:kSs (kev τ x) l (hi.map (kev τ)) mv zm nx K:=h5
    rcases onStr_inv h6 with ⟨n,s,hp,h7⟩ | ⟨_,h7⟩
    · cases mv with
      | some _=>exact (show BadN 105 from h7).elim
      | none =>
        have h7:kBnd n (hi.map (kev τ)) (fun h=>cnd (slB l h n none) (fN (Nat.sub (natI h) (natI l)) fun m=>fN (pkx .u8 s (natI l) m) fun y=>K (.str m y) zm nx [] [])):=h7
        obtain⟨h,h8,h9⟩:=kBnd_s h7
        rw[map_ov] at h8
        obtain⟨h12,h13⟩:=cnd_iff.1 h9
        rw[fN_eq,fN_eq,natI_eq,natI_eq] at h13
        rw[hp] at hx
        have hsz:(bytesOf n s).size=n:=by show ((List.range n).map _).length=n; simp
        have hb:l.toNat≤h.toNat∧h.toNat≤n:=by
          unfold slB at h12
          simp only[Bool.and_eq_true,leI_eq,decide_eq_true_eq,Int.ofNat_eq_natCast] at h12
          omega
        refine fin (w:=.str ((bytesOf n s).extract l.toNat h.toNat)) h13 ?_ (by rw[bytes_extract hb.1 hb.2]; rfl)
        unfold ySlice
        rw[if_pos hob,h2,h4,hu,←hx]
        simp only[v_str,hsz,h8]
        exact tstE h12
    · exact h7.elim
  · exact (show BadN 108 from h5).elim
end
end
end Go.K
namespace Go.Ab
open Go.RowKit
theorem FC.v_nil (c:FC 2147483648):c.v=.nilIface:=by
  unfold FC.v
  rw[if_neg (by decide)]
  split
  · rw[if_pos rfl]
  · rfl
theorem FC.v_if {f:FuncId}(h:2147483648 < f) (c:FC f):∃ x,c.v=.iface (f - 2147483649) x∧c.l=[x]:=by
  have h1:=c.one h
  have h2:¬ f < 2147483648:=Nat.not_lt.2 (Nat.le_of_lt h)
  have h3:¬ f < 1073741824:=fun q=>h2 (Nat.lt_trans q (by decide))
  have h4:f≠2147483648:=fun q=>by rw[q] at h; exact absurd h (Nat.lt_irrefl _)
  obtain⟨x,hx⟩:=Array.size_eq_one_iff.1 h1
  refine⟨x,?_,?_⟩
  · unfold FC.v
    rw[if_neg h2,hx]
    show (if f=2147483648 then Value.nilIface else .iface (f - 2147483649) x)=_
    rw[if_neg h4]
  · unfold FC.l
    rw[if_neg h3,if_neg h2,hx]
def FC.mkI (t:TypeId) (x:Value):FC (t + 2147483649):=⟨#[],#[x],fun h=>absurd h (Nat.not_lt.2 (Nat.le_trans (by decide) (Nat.le_add_left 2147483649 t))),fun _=>rfl⟩
theorem ifLt (t:Nat):2147483648 < t + 2147483649:=Nat.lt_of_lt_of_le (by decide) (Nat.le_add_left 2147483649 t)
theorem FC.mkI_v (t:TypeId) (x:Value):(FC.mkI t x).v=.iface t x:=by
  have h1:¬ t + 2147483649 < 2147483648:=Nat.not_lt.2 (Nat.le_of_lt (ifLt t))
  unfold FC.v
  rw[if_neg h1]
  show (if t + 2147483649=2147483648 then Value.nilIface else .iface (t + 2147483649 - 2147483649) x)=_
  rw[if_neg (fun q=>by have:=ifLt t; rw[q] at this; exact absurd this (Nat.lt_irrefl _)),Nat.add_sub_cancel]
theorem FC.mkI_l (t:TypeId) (x:Value):(FC.mkI t x).l=[x]:=by
  have h1:¬ t + 2147483649 < 2147483648:=Nat.not_lt.2 (Nat.le_of_lt (ifLt t))
  unfold FC.l
  rw[if_neg (fun q=>h1 (Nat.lt_trans q (by decide))),if_neg h1]
  rfl
end Go.Ab
namespace Go.K
open Go.Ab Go.RowKit Go.Y
noncomputable section
def ifcT (P:Program) (t:TypeId):Bool:=match P.underlying t with
  | some (.interface _)=>true
  | _=>false
def notIfc (P:Program) (t:TypeId):Bool:=match P.underlying t with
  | some (.interface _)=>false
  | some _=>true
  | none=>false
variable [KGl]
section
variable {P:Program}{B:Nat}{o:Oper}{τ:Nat→KV}{lo:Nat}{zm:KZ}{nx:Nat}{K:KT}
def kMkI (P:Program) (t:TypeId) (x:KV) (zm:KZ) (nx:Nat) (K:KT):Prop:=chk (notIfc P t) 261 (fN (Nat.add t 2147483649) fun f=>chk (Nat.blt f 8589934592) 266 (K (.fn f (.cons x .nl)) zm nx [] []))
omit [KGl] in
theorem kMkI_r {f:FuncId}{t:TypeId}{v:V}{x:Value}{C:Ctx}(hf:f=t + 2147483649) (h9:f < 8589934592) (h0:R C v (.val x)):R C (.fn f (.cons v .nl)) (.val (.iface t x)):=by
  subst hf
  refine⟨FC.mkI t x,?_,?_,.lt h9⟩
  · show _=FC.vw _ _
    rw[FC.vw_lt h9]
    exact (FC.mkI_v t _).symm
  · rw[FC.mkI_l]
    exact⟨_,_,rfl,h0,rfl⟩
theorem kMkI_s {t:TypeId}{x:Operand}(ho:o.op=.makeInterface t x) (h:kMkI P t (kev τ x) zm nx K):Out P B o τ lo zm nx K:=by
  obtain⟨h1,h2⟩:=chk_inv h
  rw[fN_eq] at h2
  obtain⟨f,hf⟩:∃ f,f=Nat.add t 2147483649:=⟨_,rfl⟩
  rw[←hf] at h2
  obtain⟨h8,h2⟩:=chk_inv h2
  refine Out.pure (e:=⟨_,[],[],[]⟩) h2 ⟨OpSem.pure fun C M ρc _ _ hrel=>?_,UpIn.nil⟩ (EImp.refl _)
  have h0:=hrel x (by simp [ho,Op.operands])
  rw[←kev_v] at h0
  refine⟨.iface t (ρc x),?_,kMkI_r hf (nblt.1 h8) h0⟩
  unfold notIfc at h1
  cases hu:P.underlying t with
  | none=>rw[hu] at h1; cases h1
  | some u =>
    rw[hu] at h1
    cases u with
    | interface _=>cases h1
    | _=>simp [execOp,ho,Instr.makeInterface,run_underlying hu]
def ifB:Nat:=2147483648
def ifcEq (cst:Bool) (f g:Nat):Option Bool :=
  @Bool.rec (fun _=>Option Bool) (@Bool.rec (fun _=>Option Bool)
    (@Bool.rec (fun _=>Option Bool) (@Bool.rec (fun _=>Option Bool) (@Bool.rec (fun _=>Option Bool) (some false) none (Nat.beq f g)) (some false) (Nat.beq g 2147483648))
      (@Bool.rec (fun _=>Option Bool) (some false) (@Bool.rec (fun _=>Option Bool) none (some true) cst) (Nat.beq g 2147483648)) (Nat.beq f 2147483648)) none (Nat.blt g 2147483648)) none (Nat.blt f 2147483648)
def cstO (x:Operand):Bool:=match x with
  | .const _=>true
  | _=>false
omit [KGl] in
theorem ifcEq_s {cst:Bool}{f g:Nat}{b:Bool}(h:ifcEq cst f g=some b) :
    (f=2147483648∧g=2147483648∧cst=true∧b=true)∨(f=2147483648∧2147483648 < g∧b=false)∨(2147483648 < f∧g=2147483648∧b=false)∨(2147483648 < f∧2147483648 < g∧f≠g∧b=false):=by
  unfold ifcEq at h
  cases h1:Nat.blt f 2147483648 with
  | true=>rw[h1] at h; cases h
  | false =>
    rw[h1] at h
    cases h2:Nat.blt g 2147483648 with
    | true=>rw[h2] at h; cases h
    | false =>
      rw[h2] at h
      have h1':¬ f < 2147483648:=fun q=>by rw[←Nat.blt_eq,h1] at q; cases q
      have h2':¬ g < 2147483648:=fun q=>by rw[←Nat.blt_eq,h2] at q; cases q
      have h1'':=Nat.not_lt.1 h1'
      have h2'':=Nat.not_lt.1 h2'
      cases h3:Nat.beq f 2147483648 with
      | true =>
        rw[h3] at h
        have h3':=Nat.eq_of_beq_eq_true h3
        cases h4:Nat.beq g 2147483648 with
        | true =>
          rw[h4] at h
          cases cst with
          | true=>cases h; exact .inl ⟨h3',Nat.eq_of_beq_eq_true h4,rfl,rfl⟩
          | false=>cases h
        | false =>
          rw[h4] at h; cases h
          exact .inr (.inl ⟨h3',Nat.lt_of_le_of_ne h2'' fun q=>Nat.ne_of_beq_eq_false h4 q.symm,rfl⟩)
      | false =>
        rw[h3] at h
        have h3':2147483648 < f:=Nat.lt_of_le_of_ne h1'' fun q=>Nat.ne_of_beq_eq_false h3 q.symm
        cases h4:Nat.beq g 2147483648 with
        | true=>rw[h4] at h; cases h; exact .inr (.inr (.inl ⟨h3',Nat.eq_of_beq_eq_true h4,rfl⟩))
        | false =>
          rw[h4] at h
          have h4':2147483648 < g:=Nat.lt_of_le_of_ne h2'' fun q=>Nat.ne_of_beq_eq_false h4 q.symm
          cases h5:Nat.beq f g with
          | true=>rw[h5] at h; cases h
          | false=>rw[h5] at h; cases h; exact .inr (.inr (.inr ⟨h3',h4',Nat.ne_of_beq_eq_false h5,rfl⟩))
omit [KGl] in
theorem cstO_m (x:Operand):(x matches .const _)=cstO x:=by cases x<;>rfl
omit [KGl] in
theorem eqI_nn {t:TypeId}{ms:_}(hu:P.underlying t=some (.interface ms)) (w:World):(Op.equal t .nilIface .nilIface).run P w=.ok true w:=by
  have h:∀ k:Nat,(Op.equalIn (k + 1) t .nilIface .nilIface).run P w=.ok true w:=fun k=>by simp [Op.equalIn,run_underlying hu]
  simp [Op.equal,Op.maxDepth,h 9999]
omit [KGl] in
theorem eqI_ni {t:TypeId}{ms:_}(hu:P.underlying t=some (.interface ms)) (a:TypeId) (x:Value) (w:World):(Op.equal t .nilIface (.iface a x)).run P w=.ok false w:=by
  have h:∀ k:Nat,(Op.equalIn (k + 1) t .nilIface (.iface a x)).run P w=.ok false w:=fun k=>by simp [Op.equalIn,run_underlying hu]
  simp [Op.equal,Op.maxDepth,h 9999]
omit [KGl] in
theorem eqI_in {t:TypeId}{ms:_}(hu:P.underlying t=some (.interface ms)) (a:TypeId) (x:Value) (w:World):(Op.equal t (.iface a x) .nilIface).run P w=.ok false w:=by
  have h:∀ k:Nat,(Op.equalIn (k + 1) t (.iface a x) .nilIface).run P w=.ok false w:=fun k=>by simp [Op.equalIn,run_underlying hu]
  simp [Op.equal,Op.maxDepth,h 9999]
omit [KGl] in
theorem eqI_ii {t:TypeId}{ms:_}(hu:P.underlying t=some (.interface ms)) (a b:TypeId) (x y:Value) (hne:a≠b) (w:World):(Op.equal t (.iface a x) (.iface b y)).run P w=.ok false w:=by
  have h:∀ k:Nat,(Op.equalIn (k + 1) t (.iface a x) (.iface b y)).run P w=.ok false w:=fun k=>by simp [Op.equalIn,run_underlying hu,hne]
  simp [Op.equal,Op.maxDepth,h 9999]
omit [KGl] in
theorem subNe {k f g:Nat}(hf:k < f) (hg:k < g) (h:f≠g):f - (k + 1)≠g - (k + 1):=by omega
omit [KGl] in
theorem run_ifcEq {t:TypeId}{ms:_}{f g:FuncId}(c:FC f) (d:FC g) {cst b:Bool}(hu:P.underlying t=some (.interface ms)) (h:ifcEq cst f g=some b) (w:World) :
    (Op.equal t c.v d.v).run P w=.ok b w:=by
  rcases ifcEq_s h with ⟨rfl,rfl,_,rfl⟩ | ⟨rfl,hg,rfl⟩ | ⟨hf,rfl,rfl⟩ | ⟨hf,hg,hne,rfl⟩
  · rw[c.v_nil,d.v_nil]
    exact eqI_nn hu w
  · obtain⟨x,hx,_⟩:=d.v_if hg
    rw[c.v_nil,hx]
    exact eqI_ni hu _ _ w
  · obtain⟨x,hx,_⟩:=c.v_if hf
    rw[d.v_nil,hx]
    exact eqI_in hu _ _ w
  · obtain⟨x,hx,_⟩:=c.v_if hf
    obtain⟨y,hy,_⟩:=d.v_if hg
    rw[hx,hy]
    exact eqI_ii hu _ _ _ _ (subNe hf hg hne) w
omit [KGl] in
theorem run_guardI {op:BinOp}{t:TypeId}{x y:Operand}{f g:FuncId}(c:FC f) (d:FC g) {b:Bool}(h:ifcEq (cstO x||cstO y) f g=some b) (w:World) :
    (eqGuard op t x y c.v d.v).run P w=.ok () w:=by
  unfold eqGuard
  rcases ifcEq_s h with ⟨rfl,rfl,hc,_⟩ | ⟨rfl,hg,_⟩ | ⟨hf,rfl,_⟩ | ⟨hf,hg,_,_⟩
  · rw[c.v_nil,d.v_nil]
    cases x with
    | const v=>by_cases hop:(op matches .eql | .neq)<;>simp [hop]
    | _=>cases y with
      | const v=>by_cases hop:(op matches .eql | .neq)<;>simp [hop]
      | _=>exact absurd (show false=true from hc) (by decide)
  · obtain⟨x,hx,_⟩:=d.v_if hg
    rw[c.v_nil,hx]
    by_cases hop:(op matches .eql | .neq)<;>simp [hop]
  · obtain⟨x,hx,_⟩:=c.v_if hf
    rw[d.v_nil,hx]
    by_cases hop:(op matches .eql | .neq)<;>simp [hop]
  · obtain⟨x,hx,_⟩:=c.v_if hf
    obtain⟨y,hy,_⟩:=d.v_if hg
    rw[hx,hy]
    by_cases hop:(op matches .eql | .neq)<;>simp [hop]
def kEqI (P:Program) (op:BinOp) (t:TypeId) (cst:Bool) (f g:Nat) (zm:KZ) (nx:Nat) (K:KT):Prop:=chk (nd (ifcT P t) (nd (Nat.blt f 8589934592) (Nat.blt g 8589934592))) 262 (os 263 (fun b=>eqn op b fun b=>K (.bool b) zm nx [] []) (ifcEq cst f g))
omit [KGl] in
theorem FC.v_cases {f:FuncId}(h:¬ f < 2147483648) (c:FC f):c.v=.nilIface∨∃ t x,c.v=.iface t x:=by
  rcases Nat.lt_or_eq_of_le (Nat.not_lt.1 h) with h | h
  · obtain⟨x,hx,_⟩:=c.v_if h; exact .inr ⟨_,x,hx⟩
  · subst h; exact .inl c.v_nil
theorem kEqI_s {op:BinOp}{t t':TypeId}{x y:Operand}{f g:FuncId}{cx cy:KV}(ho:o.op=.binOp op t x y t') (hx:kev τ x=.fn f cx) (hy:kev τ y=.fn g cy)
    (h:kEqI P op t (cstO x||cstO y) f g zm nx K):Out P B o τ lo zm nx K:=by
  obtain⟨h1,h2⟩:=chk_inv h
  obtain⟨h1,h8⟩:=nd_iff.1 h1
  obtain⟨h8,h9⟩:=nd_iff.1 h8
  have hf9:f < 8589934592:=nblt.1 h8
  have hg9:g < 8589934592:=nblt.1 h9
  obtain⟨b,h3,h4⟩:=os_inv h2
  obtain⟨ms,hu⟩:∃ ms,P.underlying t=some (.interface ms):=by
    unfold ifcT at h1
    split at h1
    · exact⟨_,by assumption⟩
    · cases h1
  have hvx:=kev_v τ x
  have hvy:=kev_v τ y
  rw[hx] at hvx; rw[hy] at hvy
  have key:∀ C (ρc:Operand→Value),(∀ x∈o.op.operands.toList,R C (opv Gl.G (tv' τ) x) (.val (ρc x)))→∃(c:FC f) (d:FC g),ρc x=c.v∧ρc y=d.v:=by
    intro C ρc hrel
    have q1:=hrel x (by simp [ho,Op.operands])
    have q2:=hrel y (by simp [ho,Op.operands])
    rw[←hvx] at q1; rw[←hvy] at q2
    obtain⟨c,q3,_⟩:=q1
    obtain⟨d,q4,_⟩:=q2
    exact⟨c,d,(show ρc x=c.vw C.w from q3).trans (c.vw_lt hf9 _),(show ρc y=d.vw C.w from q4).trans (d.vw_lt hg9 _)⟩
  have hge:¬ f < 2147483648∧¬ g < 2147483648:=by
    rcases ifcEq_s h3 with ⟨rfl,rfl,_⟩ | ⟨rfl,q,_⟩ | ⟨q,rfl,_⟩ | ⟨q,q',_⟩
    · exact⟨Nat.lt_irrefl _,Nat.lt_irrefl _⟩
    · exact⟨Nat.lt_irrefl _,Nat.not_lt.2 (Nat.le_of_lt q)⟩
    · exact⟨Nat.not_lt.2 (Nat.le_of_lt q),Nat.lt_irrefl _⟩
    · exact⟨Nat.not_lt.2 (Nat.le_of_lt q),Nat.not_lt.2 (Nat.le_of_lt q')⟩
  rcases eqn_inv h4 with ⟨rfl,h5⟩ | ⟨rfl,h5⟩
  · refine Out.pure (e:=pureE (.bool b)) h5 ⟨OpSem.pure fun C M ρc _ _ hrel=>?_,UpIn.nil⟩ (EImp.refl _)
    obtain⟨c,d,q1,q2⟩:=key C ρc hrel
    refine⟨.bool b,?_,rfl⟩
    have hb:binOp .eql t c.v d.v=(do pure (.bool (←Op.equal t c.v d.v))):=by
      rcases FC.v_cases hge.1 c with q | ⟨_,_,q⟩<;>rcases FC.v_cases hge.2 d with q' | ⟨_,_,q'⟩<;>rw[q,q']<;>rfl
    simp [execOp,ho,q1,q2,run_guardI c d h3,hb,run_ifcEq c d hu h3]
  · refine Out.pure (e:=pureE (.bool !b)) h5 ⟨OpSem.pure fun C M ρc _ _ hrel=>?_,UpIn.nil⟩ (EImp.refl _)
    obtain⟨c,d,q1,q2⟩:=key C ρc hrel
    refine⟨.bool !b,?_,rfl⟩
    have hb:binOp .neq t c.v d.v=(do pure (.bool (!(←Op.equal t c.v d.v)))):=by
      rcases FC.v_cases hge.1 c with q | ⟨_,_,q⟩<;>rcases FC.v_cases hge.2 d with q' | ⟨_,_,q'⟩<;>rw[q,q']<;>rfl
    simp [execOp,ho,q1,q2,run_guardI c d h3,hb,run_ifcEq c d hu h3]
def kBinI (P:Program) (op:BinOp) (t:TypeId) (cst:Bool) (x y:KV) (zm:KZ) (nx:Nat) (K:KT):Prop :=
  onFn (fun f _=>onFn (fun g _=>kEqI P op t cst f g zm nx K) (BadN 265) y) (kBin P op t x y zm nx K) x
theorem kBinI_s {op:BinOp}{t t':TypeId}{x y:Operand}(ho:o.op=.binOp op t x y t') (h:kBinI P op t (cstO x||cstO y) (kev τ x) (kev τ y) zm nx K):Out P B o τ lo zm nx K:=by
  rcases onFn_inv h with ⟨f,cx,hx,h1⟩ | ⟨_,h1⟩
  · rcases onFn_inv h1 with ⟨g,cy,hy,h2⟩ | ⟨_,h2⟩
    · exact kEqI_s ho hx hy h2
    · exact h2.elim
  · exact kBin_s ho h1
end
end
end Go.K
