/- Single operations: memory, addresses, numbers. No condition. -/
import Derived.Test.YtkllahedaiddgaaGreatDoorK1
set_option linter.unusedSimpArgs false
set_option linter.unusedVariables false
namespace Go.K
open Go.Ab Go.RowKit Go.Y
noncomputable section
variable [Gl]
def Imp (v w:V):Prop:=∀ C m,R C v m→R C w m
omit [Gl] in
theorem Imp.refl (v:V):Imp v v:=fun _ _ h=>h
def lpK (k:Kind):Bool:=match k with
 | .lp ..=>true
 | _=>false
def BImp (b c:Blk):Prop:=c.k=.dead∨(b.k=c.k∧b.sh=c.sh∧Imp b.v c.v∧(lpK c.k=true→b.v=c.v))
omit [Gl] in
theorem BImp.refl (b:Blk):BImp b b:=.inr ⟨rfl,rfl,Imp.refl _,fun _=>rfl⟩
omit [Gl] in
theorem BImp.live {b c:Blk}(h:BImp b c) (ha:c.live=true):b.live=true:=by
 rcases h with h | ⟨h,_⟩
 ·unfold Blk.live at ha; rw[h] at ha; cases ha
 ·unfold Blk.live at ha ⊢; rw[h]; exact ha
omit [Gl] in
theorem zqm {B:Nat}{C:Ctx}{id:Nat}{b c:Blk}(h:BR B C id b) (hi:BImp b c):BR B C id c:=by
 rcases hi with hi | ⟨hk,hs,hv,hl⟩
 ·unfold BR; rw[hi]; trivial
 ·unfold BR at h ⊢
  rw[hk] at h
  cases hkd:c.k<;>simp only[hkd] at h ⊢
  ·obtain⟨g,cur,e,h1,h2,h3,h4,h5,h6,hT⟩:=h
   rw[hs] at h4 h5 h6
   exact⟨g,cur,e,h1,h2,h3,h4,h5,hv _ _ h6,hT⟩
  ·obtain⟨n1,s,cells,h1,h2,h3,h4⟩:=h
   rw[hs] at h1 h2 h4
   exact⟨n1,s,cells,h1,h2,h3,hv _ _ h4⟩
  ·rw[←hl (by rw[hkd]; rfl)]; exact h
  ·obtain⟨g,es,clk,h1,h2,h3,h4⟩:=h
   exact⟨g,es,clk,h1,h2,h3,hv _ _ h4⟩
def MImp (m m':Mem):Prop:=∀ id c,m' id=some c→∃ b,m id=some b∧BImp b c
omit [Gl] in
theorem MImp.refl (m:Mem):MImp m m:=fun id c h=>⟨c,h,BImp.refl c⟩
theorem zgM {B:Nat}{C:Ctx}{m m':Mem}(h:SR B C m) (hi:MImp m m'):SR B C m' where
 base:=h.base
 okLt:=h.okLt
 al:=fun id c hc=>by obtain⟨b,hb,_⟩:=hi id c hc; exact h.al id b hb
 mem:=fun id c hc=>by obtain⟨b,hb,q⟩:=hi id c hc; exact zqm (h.mem id b hb) q
 sep:=fun id id' c c' b h1 h2 h3 h4 h5 h6=>by
  obtain⟨b1,hb1,q1⟩:=hi id c h1
  obtain⟨b2,hb2,q2⟩:=hi id' c' h3
  exact h.sep id id' b1 b2 b hb1 (q1.live h2) hb2 (q2.live h4) h5 h6
 own:=fun id c b h1 h2 h3 u=>by
  obtain⟨b1,hb1,q1⟩:=hi id c h1
  exact h.own id b1 b hb1 (q1.live h2) h3 u
 gl:=h.gl
structure EImp (e e':Eff):Prop where
 v:Imp e.v e'.v
 rd:e'.rd=e.rd
 up:e'.up.map (·.1)=e.up.map (·.1)
 len:e'.nw.length=e.nw.length
 put:∀ M n,MImp (put M n e) (put M n e')
omit [Gl] in
theorem EImp.refl (e:Eff):EImp e e:=⟨Imp.refl _,rfl,rfl,rfl,fun M n=>MImp.refl _⟩
omit [Gl] in
theorem EImp.val {v w:V}{up:List (Nat×Blk)}{nw:List Blk}{rd:List Nat}(h:Imp v w):EImp ⟨v,up,nw,rd⟩ ⟨w,up,nw,rd⟩:=⟨h,rfl,rfl,rfl,fun M n=>MImp.refl _⟩
omit [Gl] in
theorem MImp.upd {m:Mem}{id:Nat}{b c:Blk}(h:BImp b c):MImp (upd m id (some b)) (upd m id (some c)):=fun i x hx=>by
 by_cases hi:i=id
 ·subst hi; rw[zp] at hx ⊢; cases hx; exact⟨b,rfl,h⟩
 ·rw[zf _ _ hi] at hx ⊢; exact⟨x,hx,BImp.refl x⟩
omit [Gl] in
theorem EImp.new {v w:V}{b c:Blk}{rd:List Nat}(h:Imp v w) (hb:BImp b c):EImp ⟨v,[],[b],rd⟩ ⟨w,[],[c],rd⟩:=⟨h,rfl,rfl,rfl,fun M n=>by rw[jA,jA]; exact MImp.upd hb⟩
omit [Gl] in
theorem EImp.up1 {v w:V}{id:Nat}{b c:Blk}{rd:List Nat}(h:Imp v w) (hb:BImp b c):EImp ⟨v,[(id,b)],[],rd⟩ ⟨w,[(id,c)],[],rd⟩:=⟨h,rfl,rfl,rfl,fun M n=>by rw[yT,yT]; exact MImp.upd hb⟩
theorem wX {P:Program}{B:Nat}{o:Oper}{ρ:Operand→V}{m:Mem}{n:Nat}{e e':Eff}(h:OpSem P B o ρ m n e) (hi:EImp e e'):OpSem P B o ρ m n e':=by
 intro C M ρc h1 h2 h3 h4 h5
 rw[hi.rd] at h2
 rw[hi.len] at h4
 refine (h C M ρc h1 h2 (fun x hx=>?_) h4 h5).mono ?_
 ·have:x.1∈e'.up.map (·.1):=by rw[hi.up]; exact List.mem_map_of_mem hx
  obtain⟨y,hy,e1⟩:=List.mem_map.1 this
  rw[←e1]; exact h3 y hy
 ·rintro v w ⟨C',hw,hR,hK,hS,hal⟩
  exact⟨C',hw,hi.v _ _ hR,hK,zgM hS (hi.put M n),by rw[hi.len]; exact hal⟩
omit [Gl] in
theorem Zy {m:Mem}{e e':Eff}(h:UpIn m e) (hi:EImp e e'):UpIn m e' where
 up:=fun x hx=>by
  have:x.1∈e.up.map (·.1):=by rw[←hi.up]; exact List.mem_map_of_mem hx
  obtain⟨y,hy,e1⟩:=List.mem_map.1 this
  rw[←e1]; exact h.up y hy
 rd:=by rw[hi.rd]; exact h.rd
structure GR (B H:Nat) (C:Ctx) (M:Mem) (μ:Mem) (nx:Nat):Prop where
 sr:SR B C M
 sub:Sub μ M
 al:∀ id,nx≤id→id < H→¬ C.al id
structure GC (B H:Nat) (C:Ctx) (M:Mem) (μ:Mem) (nx:Nat) (C':Ctx) (M':Mem) (μ':Mem) (nx':Nat):Prop where
 kp:Kp B C C'
 al:∀ id,C'.al id→C.al id∨(nx≤id∧id < nx')
 fr:∀ id,(id < nx∨H≤id)→μ id=none→M' id=M id∧μ' id=none
omit [Gl] in
theorem GC.refl {B H:Nat}(C:Ctx) (M μ:Mem) (nx:Nat):GC B H C M μ nx C M μ nx:=⟨Kp.refl B C,fun _ h=>.inl h,fun _ _ h=>⟨rfl,h⟩⟩
omit [Gl] in
theorem GC.trans {B H:Nat}{C C' C'':Ctx}{M M' M'':Mem}{μ μ' μ'':Mem}{nx nx' nx'':Nat}(h:GC B H C M μ nx C' M' μ' nx') (k:GC B H C' M' μ' nx' C'' M'' μ'' nx'') (h1:nx≤nx') (h2:nx'≤nx''):GC B H C M μ nx C'' M'' μ'' nx'' :=
 ⟨h.kp.trans k.kp,fun id hid=>by
  rcases k.al id hid with h3 | h3
  ·rcases h.al id h3 with h4 | h4
   ·exact .inl h4
   ·exact .inr ⟨h4.1,by omega⟩
  ·exact .inr ⟨by omega,h3.2⟩,fun id hid hn=>by
  obtain⟨h3,h4⟩:=h.fr id hid hn
  obtain⟨h5,h6⟩:=k.fr id (by omega) h4
  exact⟨h5.trans h3,h6⟩⟩
def MB (μ:Mem) (nx:Nat):Prop:=∀ id,nx≤id→μ id=none
structure GT (C:Ctx) (τ:Nat→V) (a:Act) (N:Nat):Prop where
 tv:∀ t,R C (τ t) (.val (a.tmps.getD t undef))
 size:N≤a.tmps.size
omit [Gl] in
theorem GT.keep {C C':Ctx}{τ:Nat→V}{a:Act}{N:Nat}(h:GT C τ a N) (hk:Keep C C'):GT C' τ a N:=⟨fun t=>R.keep hk _ _ (h.tv t),h.size⟩
def zln (τ τ':Nat→V):Prop:=∀ t x C,R C (τ t) (.val x)→R C (τ' t) (.val x)
omit [Gl] in
theorem GT.imp {C:Ctx}{τ τ':Nat→V}{a:Act}{N:Nat}(h:GT C τ a N) (hi:zln τ τ'):GT C τ' a N:=⟨fun t=>hi t _ _ (h.tv t),h.size⟩
def v8 (d:Option Tmp) (v:V) (τ:Nat→V):Nat→V:=match d with | some d=>fun t=>if t=d then v else τ t | none=>τ
omit [Gl] in
theorem GT.put {C:Ctx}{τ:Nat→V}{a:Act}{N:Nat}(h:GT C τ a N) {d:Option Tmp}{v:V}{val:Value}(hd:dOk N d=true) (hr:R C v (.val val)):GT C (v8 d v τ) (a.put d val) N:=by
 cases d with
 | none=>exact⟨h.tv,h.size⟩
 | some d =>
  have hd':d < N:=by simpa [dOk] using hd
  refine⟨fun t=>?_,?_⟩
  ·rw[YU rfl (show d < a.tmps.size from Nat.lt_of_lt_of_le hd' h.size)]
   by_cases hdt:d=t
   ·subst hdt
    rw[if_pos rfl]
    simp only[v8,if_true]; exact hr
   ·rw[if_neg hdt]
    simp only[v8,if_neg (fun e:t=d=>hdt e.symm)]; exact h.tv t
  ·show N≤(a.put (some d) val).tmps.size
   simpa [Act.put] using h.size
theorem GT.operand {C:Ctx}{τ:Nat→V}{a:Act}{N:Nat}(h:GT C τ a N) (hg:∀ g,R C (Gl.G g) (.val (.pointer (some ⟨g,0,none⟩)))) (x:Operand):R C (opv Gl.G τ x) (.val (a.eval x)):=by
 cases x with
 | tmp t=>exact h.tv t
 | const v=>exact R.ofVal C v
 | global g=>exact hg g
 | func f=>exact R.fnop f
theorem GR.weak {B H:Nat}{C0 C:Ctx}{M0 M μ0 μ μ':Mem}{nx0 nx nx':Nat}(h:GR B H C M μ nx) (hc:GC B H C0 M0 μ0 nx0 C M μ nx) (hi:MImp μ μ') (hn:nx≤nx'):∃ M',GR B H C M' μ' nx'∧GC B H C0 M0 μ0 nx0 C M' μ' nx'∧∀ id,μ id=none→M' id=M id∧μ' id=none:=by
 have hno:∀ id,μ id=none→μ' id=none:=fun id h1=>by
  cases h2:μ' id with
  | none=>rfl
  | some c=>obtain⟨b,hb,_⟩:=hi id c h2; rw[h1] at hb; cases hb
 refine⟨fun id=>match μ' id with | some c=>some c | none=>M id,⟨zgM h.sr ?_,?_,fun id h1 h2=>h.al id (by omega) h2⟩,⟨hc.kp,fun id hid=>(hc.al id hid).imp (fun h=>h) fun h=>⟨h.1,by omega⟩,?_⟩,fun id h1=>⟨by simp only[hno id h1],hno id h1⟩⟩
 ·intro id c hx
  replace hx:(match μ' id with | some c=>some c | none=>M id)=some c:=hx
  cases h2:μ' id with
  | none=>rw[h2] at hx; exact⟨c,hx,BImp.refl c⟩
  | some c' =>
   rw[h2] at hx; cases hx
   obtain⟨b,hb,q⟩:=hi id c h2
   exact⟨b,h.sub _ _ hb,q⟩
 ·intro id c h1
  simp only[h1]
 ·intro id hid h1
  obtain⟨q1,q2⟩:=hc.fr id hid h1
  refine⟨?_,hno id q2⟩
  simp only[hno id q2]
  exact q1
structure Side (ro:Option Nat) (n0:Nat) (H:Nat) (C:Ctx) (M μ:Mem) (nx:Nat) (ds:List Deferred):Prop where
 df:∀ d∈ds,∃ id D k ps x y sh,(n0≤id + 1∧(id < nx∨(n0=0∧H≤id)))∧μ id=none∧M id=some ⟨.lp k ps x y,sh,.nilf⟩∧C.sv id=.pointer (some ⟨D,0,none⟩)∧d=⟨.collected D,#[]⟩
 nd:ds.Nodup
 le:n0≤nx + 1
 rd:∀ l,ro=some l→∃ id k ps x y sh st n τ,id < nx∧μ id=none∧M id=some ⟨.lp k ps x y,sh,.cons st (.arr n τ)⟩∧C.sv id=.func (.yield l) #[] #[]
theorem Side.next {ro:Option Nat}{n0 B H:Nat}{C C':Ctx}{M M' μ μ':Mem}{nx nx':Nat}{ds:List Deferred}(h:Side ro n0 H C M μ nx ds) (hr:SR B C M) (hc:GC B H C M μ nx C' M' μ' nx') (hle:nx≤nx'):Side ro n0 H C' M' μ' nx' ds where
 df:=fun d hd=>by
  obtain⟨id,D,k,ps,x,y,sh,h1,h2,h3,h4,h5⟩:=h.df d hd
  obtain⟨q1,q2⟩:=hc.fr id (h1.2.imp (fun h=>h) And.right) h2
  exact⟨id,D,k,ps,x,y,sh,by omega,q2,by rw[q1]; exact h3,by rw[hc.kp.sv _ (hr.al _ _ h3)]; exact h4,h5⟩
 nd:=h.nd
 le:=Nat.le_trans h.le (Nat.succ_le_succ hle)
 rd:=fun l hl=>by
  obtain⟨id,k,ps,x,y,sh,st,n,τ,h1,h2,h3,h4⟩:=h.rd l hl
  obtain⟨q1,q2⟩:=hc.fr id (.inl h1) h2
  exact⟨id,k,ps,x,y,sh,st,n,τ,by omega,q2,by rw[q1]; exact h3,by rw[hc.kp.sv _ (hr.al _ _ h3)]; exact h4⟩
omit [Gl] in
theorem Side.weak {ro:Option Nat}{n0 H:Nat}{C:Ctx}{M M' μ μ':Mem}{nx nx':Nat}{ds:List Deferred}(h:Side ro n0 H C M μ nx ds) (hle:nx≤nx') (hm:∀ id,μ id=none→M' id=M id∧μ' id=none):Side ro n0 H C M' μ' nx' ds where
 df:=fun d hd=>by
  obtain⟨id,D,k,ps,x,y,sh,h1,h2,h3,h4,h5⟩:=h.df d hd
  obtain⟨q1,q2⟩:=hm id h2
  exact⟨id,D,k,ps,x,y,sh,by omega,q2,by rw[q1]; exact h3,h4,h5⟩
 nd:=h.nd
 le:=Nat.le_trans h.le (Nat.succ_le_succ hle)
 rd:=fun l hl=>by
  obtain⟨id,k,ps,x,y,sh,st,n,τ,h1,h2,h3,h4⟩:=h.rd l hl
  obtain⟨q1,q2⟩:=hm id h2
  exact⟨id,k,ps,x,y,sh,st,n,τ,by omega,q2,by rw[q1]; exact h3,h4⟩
def GDoes (P:Program) (B:Nat) (o:Oper) (τ:Nat→V) (μ:Mem) (nx:Nat) (v:V) (μ':Mem) (nx' mx':Nat):Prop :=
 ∀(H:Nat) (C:Ctx) (M:Mem) (ρc:Operand→Value),nx'≤H→mx'≤H→GR B H C M μ nx→(∀ x∈o.op.operands.toList,R C (opv Gl.G τ x) (.val (ρc x))) →
  Does P (execOp ρc o) C.w fun val w'=>∃ C' M',C'.w=w'∧R C' v (.val val)∧GR B H C' M' μ' nx'∧GC B H C M μ nx C' M' μ' nx'
theorem GDoes.imp {P:Program}{B:Nat}{o:Oper}{τ:Nat→V}{μ:Mem}{nx:Nat}{v v2:V}{μ' μ2:Mem}{nx' nx2 mx' mx2:Nat}(h:GDoes P B o τ μ nx v μ' nx' mx') (hv:Imp v v2) (hm:MImp μ' μ2) (hn:nx'≤nx2) (hx:mx'≤mx2):GDoes P B o τ μ nx v2 μ2 nx2 mx2:=by
 intro H C M ρc hH hH2 hr ho
 refine (h H C M ρc (by omega) (by omega) hr ho).mono ?_
 rintro val w' ⟨C',M',hw,hR,hz,hc⟩
 obtain⟨M2,q1,q2,_⟩:=hz.weak hc hm hn
 exact⟨C',M2,hw,hv _ _ hR,q1,q2⟩
def GOp (P:Program) (B:Nat) (o:Oper) (τ:Nat→V) (μ:Mem) (nx:Nat) (v:V) (μ':Mem) (nx' mx':Nat):Prop :=
 ∀(ro:Option Nat) (H:Nat) (C:Ctx) (M:Mem) (a:Act) (K:Act→World→Prop) (Q:Exit→Act→World→Prop),nx'≤H→mx'≤H→GR B H C M μ nx→(∀ x∈o.op.operands.toList,R C (opv Gl.G τ x) (.val (a.eval x))) →
  (∀ val C' M',R C' v (.val val)→GR B H C' M' μ' nx'→GC B H C M μ nx C' M' μ' nx'→K (a.put o.dst val) C'.w)→o.wpIn (FR ro) 0 P a C.w K Q
theorem GDoes.op {P:Program}{B:Nat}{o:Oper}{τ:Nat→V}{μ:Mem}{nx:Nat}{v:V}{μ':Mem}{nx' mx':Nat}(h:GDoes P B o τ μ nx v μ' nx' mx'):GOp P B o τ μ nx v μ' nx' mx':=by
 intro ro H C M a K Q hH hH2 hr ho hK
 refine Does.wpR (h H C M a.eval hH hH2 hr ho) ?_
 rintro val w' ⟨C',M',rfl,q2,q3,q4⟩
 exact hK val C' M' q2 q3 q4
structure GSt (P:Program) (B:Nat) (o:Oper) (τ:Nat→V) (μ μ':Mem) (nx nx':Nat) (v:V) (up rd:List Nat) (e:Eff):Prop where
 val:e.v=v
 nxt:nx'=nx + e.nw.length
 ups:e.up.map (·.1)=up
 rds:e.rd=rd
 upk:∀ x∈e.up,∃ b,μ x.1=some b
 kn:∀ id,(id < nx∨nx'≤id)→μ id=none→μ' id=none
 sem:∀ M,Sub μ M→OpSem P B o (opv Gl.G τ) M nx e
 sub:MB μ nx→∀ M,Sub μ M→Sub μ' (put M nx e)
section
variable {P:Program}{B:Nat}{o:Oper}{τ:Nat→V}{μ:Mem}{nx:Nat}
omit [Gl] in
theorem yW {e:Eff}{n id:Nat}(h1:id < n∨n + e.nw.length≤id) (h2:∀ x∈e.up,x.1≠id):xf e n id=none:=by
 unfold xf
 rw[if_neg (by omega)]
 cases hl:e.up.lookup id with
 | none=>rfl
 | some b =>
  exfalso
  obtain⟨x,hx,rfl⟩:=qz hl
  exact h2 x hx rfl
theorem GSt.of {e:Eff}(hs:OpSem P B o (opv Gl.G τ) μ nx e) (hu:UpIn μ e):GSt P B o τ μ (put μ nx e) nx (nx + e.nw.length) e.v (e.up.map (·.1)) e.rd e:=by
 refine⟨rfl,rfl,rfl,rfl,hu.up,fun id hid hn=>?_,fun M hM=>OpSem.agree hs (fun id hid=>?_) (fun x hx=>?_),fun hkb M hM id b hb=>?_⟩
 ·have:xf e nx id=none:=yW hid fun x hx e1=>by
   obtain⟨b,hb⟩:=hu.up x hx
   rw[e1,hn] at hb; cases hb
  simp only[put,this]; exact hn
 ·obtain⟨b,hb⟩:=hu.rd id hid
  rw[hb,hM _ _ hb]
 ·obtain⟨b,hb⟩:=hu.up x hx
  rw[hb,hM _ _ hb]
 ·unfold put at hb ⊢
  cases ht:xf e nx id with
  | some c=>rw[ht] at hb; exact hb
  | none=>rw[ht] at hb; exact hM _ _ hb
theorem GSt.does {μ':Mem}{nx':Nat}{v:V}{up rd:List Nat}{e:Eff}(h:GSt P B o τ μ μ' nx nx' v up rd e) (hkb:MB μ nx) (mx:Nat):GDoes P B o τ μ nx v μ' nx' mx:=by
 intro H C M ρc hH _ hr ho
 have hnx:=h.nxt
 refine Does.mono ?_ (h.sem M hr.sub C M ρc hr.sr (fun _ _=>rfl) (fun _ _=>rfl) (fun i hi=>hr.al _ (by omega) (by omega)) ho)
 rintro val w' ⟨C',hw,hR,hK,hS,hal⟩
 rw[h.val] at hR
 have hal':∀ id,C'.al id→C.al id∨(nx≤id∧id < nx'):=fun id hid=>by
  rcases hal id hid with h1 | h1
  ·exact .inl h1
  ·exact .inr ⟨h1.1,by omega⟩
 refine⟨C',_,hw,hR,⟨hS,h.sub hkb M hr.sub,fun id h1 h2 h3=>?_⟩,⟨hK,hal',fun id hid hn=>⟨?_,h.kn id (by omega) hn⟩⟩⟩
 ·rcases hal' id h3 with h4 | h4
  ·exact hr.al id (by omega) h2 h4
  ·omega
 ·have ht:xf e nx id=none:=by
   unfold xf
   rw[if_neg (by omega)]
   cases hl:e.up.lookup id with
   | none=>rfl
   | some b =>
    exfalso
    obtain⟨x,hx,e1⟩:=qz hl
    obtain⟨b',hb'⟩:=h.upk x hx
    rw[e1,hn] at hb'; cases hb'
  simp only[put,ht]
theorem GSt.mb {μ':Mem}{nx':Nat}{v:V}{up rd:List Nat}{e:Eff}(h:GSt P B o τ μ μ' nx nx' v up rd e) (hk:MB μ nx):MB μ' nx' :=
 fun id hid=>h.kn id (.inr hid) (hk id (by have:=h.nxt; omega))
end
structure GF (ro:Option Nat) (n0:Nat) (B H:Nat) (C:Ctx) (M:Mem) (μ:Mem) (nx:Nat) (N:Nat) (τ':Nat→V) (μ':Mem) (nx':Nat) (C':Ctx) (M':Mem) (a':Act):Prop where
 yr:GR B H C' M' μ' nx'
 yt:GT C' τ' a' N
 yc:GC B H C M μ nx C' M' μ' nx'
 sd:Side ro n0 H C' M' μ' nx' a'.defers
def XX (ro:Option Nat) (n0:Nat) (B H:Nat) (C:Ctx) (M:Mem) (μ:Mem) (nx:Nat) (N:Nat) (e:Exit) (τ':Nat→V) (μ':Mem) (nx':Nat) (e':Exit) (a':Act) (w':World):Prop :=
 e'=e∧∃ C' M',C'.w=w'∧GF ro n0 B H C M μ nx N τ' μ' nx' C' M' a'
def GRuns (P:Program) (B:Nat) (c:Code) (τ:Nat→V) (μ:Mem) (nx:Nat) (N:Nat) (e:Exit) (τ':Nat→V) (μ':Mem) (nx' mx':Nat):Prop :=
 ∀(ro:Option Nat) (n0:Nat) (H:Nat) (C:Ctx) (M:Mem) (a:Act),nx'≤H→mx'≤H→GR B H C M μ nx→GT C τ a N→Side ro n0 H C M μ nx a.defers→c.wpIn (FR ro) 0 P (XX ro n0 B H C M μ nx N e τ' μ' nx') a C.w
theorem GRuns.imp {P:Program}{B:Nat}{c:Code}{τ τ' τ2:Nat→V}{μ μ' μ2:Mem}{nx nx' nx2 mx' mx2 N:Nat}{e:Exit}(h:GRuns P B c τ μ nx N e τ' μ' nx' mx') (ht:zln τ' τ2) (hm:MImp μ' μ2) (hn:nx'≤nx2) (hx:mx'≤mx2):GRuns P B c τ μ nx N e τ2 μ2 nx2 mx2:=by
 intro ro n0 H C M a hH hH2 hz hta hsd
 refine wpIn_mono (h ro n0 H C M a (by omega) (by omega) hz hta hsd) ?_
 rintro e' a' w' ⟨rfl,C',M',rfl,hf⟩
 obtain⟨M2,q1,q2,q3⟩:=hf.yr.weak hf.yc hm hn
 exact⟨rfl,C',M2,rfl,q1,hf.yt.imp ht,q2,hf.sd.weak hn q3⟩
def GCall (P:Program) (B:Nat) (fid:FuncId) (l:List V) (μ:Mem) (nx:Nat) (v:V) (μ':Mem) (nx' mx':Nat):Prop :=
 ∀(H:Nat) (C:Ctx) (M:Mem) (vals:List Value),nx'≤H→mx'≤H→GR B H C M μ nx→R C (mkL l) (.list vals) →
  Calls P fid vals.toArray C.w fun e w'=>∃ val,e=.returned val∧∃ C' M',C'.w=w'∧R C' v (.val val)∧GR B H C' M' μ' nx'∧GC B H C M μ nx C' M' μ' nx'
section
variable {P:Program}{B N:Nat}{τ τ':Nat→V}{μ μ':Mem}{nx nx' mx mx':Nat}
theorem GCall.imp {fid:FuncId}{l:List V}{v v2:V}{μ2:Mem}{nx2 mx2:Nat}(h:GCall P B fid l μ nx v μ' nx' mx') (hv:Imp v v2) (hm:MImp μ' μ2) (hn:nx'≤nx2) (hx:mx'≤mx2):GCall P B fid l μ nx v2 μ2 nx2 mx2:=by
 intro H C M vals hH hH2 hz hl
 refine (h H C M vals (by omega) (by omega) hz hl).mono ?_
 rintro e w' ⟨val,he,C',M',hw,hR,hz',hc⟩
 obtain⟨M2,q1,q2,_⟩:=hz'.weak hc hm hn
 exact⟨val,he,C',M2,hw,hv _ _ hR,q1,q2⟩
theorem GRuns.skip:GRuns P B .skip τ μ nx N .normal τ μ nx mx:=fun ro n0 H C M a _ _ hz ht hsd=>wpIn_skip ⟨rfl,C,M,rfl,hz,ht,GC.refl C M μ nx,hsd⟩
theorem GRuns.label {l:Nat}:GRuns P B (.label l) τ μ nx N .normal τ μ nx mx:=fun ro n0 H C M a _ _ hz ht hsd=>wpIn_label ⟨rfl,C,M,rfl,hz,ht,GC.refl C M μ nx,hsd⟩
theorem GRuns.exit {i:Nat}:GRuns P B (.exit i) τ μ nx N (.exit i) τ μ nx mx:=fun ro n0 H C M a _ _ hz ht hsd=>wpIn_exit ⟨rfl,C,M,rfl,hz,ht,GC.refl C M μ nx,hsd⟩
theorem GRuns.ret:GRuns P B .ret τ μ nx N .ret τ μ nx mx:=fun ro n0 H C M a _ _ hz ht hsd=>wpIn_ret ⟨rfl,C,M,rfl,hz,ht,GC.refl C M μ nx,hsd⟩
theorem GRuns.seq {x y:Code}{e:Exit}{τ1:Nat→V}{μ1:Mem}{nx1 mx1:Nat}(h:GRuns P B x τ μ nx N .normal τ1 μ1 nx1 mx1) (k:GRuns P B y τ1 μ1 nx1 N e τ' μ' nx' mx') (h1:nx≤nx1) (h2:nx1≤nx') (h3:mx1≤mx'):GRuns P B (.seq x y) τ μ nx N e τ' μ' nx' mx':=by
 intro ro n0 H C M a hH hH2 hz ht hsd
 refine wpIn_seq (wpIn_mono (h ro n0 H C M a (by omega) (by omega) hz ht hsd) ?_)
 rintro e' a' w' ⟨rfl,C',M',rfl,hf⟩
 refine wpIn_mono (k ro n0 H C' M' a' hH hH2 hf.yr hf.yt hf.sd) ?_
 rintro e' a'' w' ⟨rfl,C'',M'',rfl,hf'⟩
 exact⟨rfl,C'',M'',rfl,hf'.yr,hf'.yt,hf.yc.trans hf'.yc h1 h2,hf'.sd⟩
theorem GRuns.seqX {x y:Code}{e:Exit}(he:e≠.normal) (h:GRuns P B x τ μ nx N e τ' μ' nx' mx'):GRuns P B (.seq x y) τ μ nx N e τ' μ' nx' mx':=by
 intro ro n0 H C M a hH hH2 hz ht hsd
 refine wpIn_seq (wpIn_mono (h ro n0 H C M a hH hH2 hz ht hsd) ?_)
 rintro e' a' w' ⟨rfl,hf⟩
 cases e' with
 | normal=>exact absurd rfl he
 | _=>exact⟨rfl,hf⟩
theorem GRuns.blockE {id:Nat}{x:Code}(h:GRuns P B x τ μ nx N (.exit id) τ' μ' nx' mx'):GRuns P B (.block id x) τ μ nx N .normal τ' μ' nx' mx':=by
 intro ro n0 H C M a hH hH2 hz ht hsd
 refine wpIn_block (wpIn_mono (h ro n0 H C M a hH hH2 hz ht hsd) ?_)
 rintro e' a' w' ⟨rfl,hf⟩
 simp only[Exit.inBlock,if_true]
 exact⟨rfl,hf⟩
theorem GRuns.blockX {id:Nat}{x:Code}{e:Exit}(he:e≠.exit id) (h:GRuns P B x τ μ nx N e τ' μ' nx' mx'):GRuns P B (.block id x) τ μ nx N e τ' μ' nx' mx':=by
 intro ro n0 H C M a hH hH2 hz ht hsd
 refine wpIn_block (wpIn_mono (h ro n0 H C M a hH hH2 hz ht hsd) ?_)
 rintro e' a' w' ⟨rfl,hf⟩
 cases e' with
 | exit i =>
  have hi:¬ i=id:=fun e1=>he (by rw[e1])
  simp only[Exit.inBlock,hi,if_false]
  exact⟨rfl,hf⟩
 | _=>exact⟨rfl,hf⟩
theorem GRuns.scope {x:Code}{e:Exit}(he:∀ i,e≠.goto i) (h:GRuns P B x τ μ nx N e τ' μ' nx' mx'):GRuns P B (.scope x) τ μ nx N e τ' μ' nx' mx':=by
 intro ro n0 H C M a hH hH2 hz ht hsd
 refine zlL (wpIn_mono (h ro n0 H C M a hH hH2 hz ht hsd) ?_)
 rintro e' a' w' ⟨rfl,hf⟩
 cases e' with
 | goto i=>exact absurd rfl (he i)
 | _=>exact⟨rfl,hf⟩
theorem GRuns.cond {c:Operand}{x y:Code}{b:Bool}{e:Exit}(hb:opv Gl.G τ c=.bool b) (h:GRuns P B (if b then x else y) τ μ nx N e τ' μ' nx' mx'):GRuns P B (.cond c x y) τ μ nx N e τ' μ' nx' mx':=by
 intro ro n0 H C M a hH hH2 hz ht hsd
 have hev:a.eval c=.bool b:=by
  have:=ht.operand hz.sr.gl c
  rw[hb] at this
  exact this
 cases b with
 | true=>exact wpIn_cond_true hev (h ro n0 H C M a hH hH2 hz ht hsd)
 | false=>exact wpIn_cond_false hev (h ro n0 H C M a hH hH2 hz ht hsd)
inductive GLoop (P:Program) (B:Nat) (c:Code) (N:Nat) (e:Exit) (τ':Nat→V) (μ':Mem) (nx' mx':Nat):Nat→(Nat→V)→Mem→Nat→Prop where
 | out {k:Nat}{τ:Nat→V}{μ:Mem}{nx:Nat}(h:GRuns P B c τ μ nx N e τ' μ' nx' mx') (he:e≠.normal) (hle:nx≤nx'):GLoop P B c N e τ' μ' nx' mx' (k + 1) τ μ nx
 | round {k:Nat}{τ τ1:Nat→V}{μ μ1:Mem}{nx nx1 mx1:Nat}(h:GRuns P B c τ μ nx N .normal τ1 μ1 nx1 mx1) (hle:nx≤nx1) (hlx:mx1≤mx') (h2:GLoop P B c N e τ' μ' nx' mx' k τ1 μ1 nx1):GLoop P B c N e τ' μ' nx' mx' (k + 1) τ μ nx
theorem GLoop.le {c:Code}{k:Nat}{e:Exit}(h:GLoop P B c N e τ' μ' nx' mx' k τ μ nx):nx≤nx':=by
 induction h with
 | out h he hle=>exact hle
 | round h hle _ h2 ih=>omega
theorem GLoop.runs {c:Code}{k:Nat}{e:Exit}(h:GLoop P B c N e τ' μ' nx' mx' k τ μ nx):GRuns P B (.loop c) τ μ nx N e τ' μ' nx' mx':=by
 intro ro n0 H C M a hH hH2 hz ht hsd
 refine V4 (fun n a w=>∃ C' M' τ1 μ1 nx1,C'.w=w∧GR B H C' M' μ1 nx1∧GT C' τ1 a N∧GC B H C M μ nx C' M' μ1 nx1∧nx≤nx1∧Side ro n0 H C' M' μ1 nx1 a.defers∧GLoop P B c N e τ' μ' nx' mx' n τ1 μ1 nx1) k ⟨C,M,τ,μ,nx,rfl,hz,ht,GC.refl C M μ nx,Nat.le_refl _,hsd,h⟩ ?_
 rintro n a w ⟨C1,M1,τ1,μ1,nx1,rfl,h1,h2,h3,h4,h6,h5⟩
 cases h5 with
 | out hr he hle =>
  refine wpIn_mono (hr ro n0 H C1 M1 a hH hH2 h1 h2 h6) ?_
  rintro e' a' w' ⟨rfl,C2,M2,rfl,hf⟩
  have hq:XX ro n0 B H C M μ nx N e' τ' μ' nx' e' a' C2.w:=⟨rfl,C2,M2,rfl,hf.yr,hf.yt,h3.trans hf.yc h4 hle,hf.sd⟩
  cases e' with
  | normal=>exact absurd rfl he
  | _=>exact hq
 | @round k _ τ2 _ μ2 _ nx2 mx2 hr hle hlx h7 =>
  refine wpIn_mono (hr ro n0 H C1 M1 a (by have:=h7.le; omega) (by omega) h1 h2 h6) ?_
  rintro e' a' w' ⟨rfl,C2,M2,rfl,hf⟩
  exact⟨k,by omega,C2,M2,τ2,μ2,nx2,rfl,hf.yr,hf.yt,h3.trans hf.yc h4 hle,by omega,hf.sd,h7⟩
def GReg (P:Program) (B:Nat) (ops:Array Oper) (i n:Nat) (τ:Nat→V) (μ:Mem) (nx:Nat) (N:Nat) (τ':Nat→V) (μ':Mem) (nx' mx':Nat):Prop :=
 ∀(ro:Option Nat) (n0:Nat) (H:Nat) (C:Ctx) (M:Mem) (a:Act) (Q:Exit→Act→World→Prop),nx'≤H→mx'≤H→GR B H C M μ nx→GT C τ a N→Side ro n0 H C M μ nx a.defers→(∀ C' M' a',GF ro n0 B H C M μ nx N τ' μ' nx' C' M' a'→Q .normal a' C'.w)→wpOpsIn (FR ro) 0 P ops Q (List.range' i n) a C.w
theorem GReg.nil {ops:Array Oper}{i:Nat}:GReg P B ops i 0 τ μ nx N τ μ nx mx:=fun ro n0 H C M a Q hH _ hz ht hsd hQ=>hQ C M a ⟨hz,ht,GC.refl C M μ nx,hsd⟩
def jl (τ:Nat→V) (ops:Array Oper) (o:Oper) (b:Bool):Prop:=(∀ C a N,GT C τ a N→Region.wanted o (yielded ops a.tmps)=b)∧yq ops τ o (!b)
omit [Gl] in
theorem jP {a:Act}{d:Option Tmp}{v:Value}:(a.put d v).defers=a.defers:=by cases d<;>rfl
theorem GReg.op {ops:Array Oper}{i n:Nat}{o:Oper}{v:V}{μ1:Mem}{nx1 mx1:Nat}(hop:ops[i]?=some o) (hw:jl τ ops o true) (hd:dOk N o.dst=true) (h:GOp P B o τ μ nx v μ1 nx1 mx1) (k:GReg P B ops (i + 1) n (v8 o.dst v τ) μ1 nx1 N τ' μ' nx' mx') (h1:nx≤nx1) (h2:nx1≤nx') (h3:mx1≤mx'):GReg P B ops i (n + 1) τ μ nx N τ' μ' nx' mx':=by
 intro ro n0 H C M a Q hH hH2 hz ht hsd hQ
 rw[List.range'_succ,wpOpsIn_cons]
 unfold wpOpIn
 simp only[hop]
 rw[if_pos (hw.1 C a N ht)]
 refine h ro H C M a _ Q (by omega) (by omega) hz (fun x _=>ht.operand hz.sr.gl x) ?_
 intro val C' M' q2 q3 q4
 exact k ro n0 H C' M' _ Q hH hH2 q3 ((ht.keep q4.kp.toKeep).put hd q2) (by rw[jP]; exact hsd.next hz.sr q4 h1) fun C'' M'' a'' hf=>hQ C'' M'' a'' ⟨hf.yr,hf.yt,q4.trans hf.yc h1 h2,hf.sd⟩
theorem GReg.skip {ops:Array Oper}{i n:Nat}{o:Oper}(hop:ops[i]?=some o) (hw:jl τ ops o false) (hd:dOk N o.dst=true) (k:GReg P B ops (i + 1) n (v8 o.dst (.tup .nl) τ) μ nx N τ' μ' nx' mx'):GReg P B ops i (n + 1) τ μ nx N τ' μ' nx' mx':=by
 intro ro n0 H C M a Q hH hH2 hz ht hsd hQ
 rw[List.range'_succ,wpOpsIn_cons]
 unfold wpOpIn
 simp only[hop]
 rw[if_neg (by rw[hw.1 C a N ht]; simp)]
 exact⟨fun _ _=>trivial,k ro n0 H C M _ Q hH hH2 hz (ht.put hd ⟨#[],rfl,rfl⟩) (by rw[jP]; exact hsd) hQ⟩
theorem GReg.runs {id:Nat}{ops:Array Oper}(h:GReg P B ops 0 ops.toList.length τ μ nx N τ' μ' nx' mx'):GRuns P B (.region id ops false) τ μ nx N .normal τ' μ' nx' mx':=by
 intro ro n0 H C M a hH hH2 hz ht hsd
 refine wpIn_region ?_
 rw[List.range_eq_range',←Array.length_toList]
 exact h ro n0 H C M a _ hH hH2 hz ht hsd fun C' M' a' hf=>⟨rfl,C',M',rfl,hf⟩
structure GTr (P:Program) (B:Nat) (ops:Array Oper) (N:Nat) (τ0:Nat→V) (μ0:Mem) (nx0:Nat) (τ:Nat→V) (μ:Mem) (nx:Nat) (tr:List TE):Prop where
 tv:∀ t,τ t=Ab.look wrT τ0 (fun _=>true) tr t
 nxe:nx=jL nx0 tr
 le:nx0≤nx
 mb:MB μ nx
 mem:∀ M,Sub μ0 M→Valid P B Gl.G ops N τ0 M nx0 tr∧Sub μ (Ab.look wrM M (fun _=>true) tr) ∧
  ∀ id,(id < nx0∨nx≤id)→μ0 id=none→Ab.look wrM M (fun _=>true) tr id=M id∧μ id=none
theorem GTr.nil {ops:Array Oper}(hkb:MB μ nx):GTr P B ops N τ μ nx τ μ nx []:=⟨fun _=>rfl,rfl,Nat.le_refl _,hkb,fun M hM=>⟨trivial,hM,fun _ _ h=>⟨rfl,h⟩⟩⟩
section
variable {ops:Array Oper}{τ0:Nat→V}{μ0:Mem}{nx0:Nat}{tr:List TE}{o:Oper}
theorem GTr.lookT (hz:GTr P B ops N τ0 μ0 nx0 τ μ nx tr) {v:V}{te:TE}(h1:te.o=o) (h2:te.e.v=v) (t:Nat):v8 o.dst v τ t=Ab.look wrT τ0 (fun _=>true) (te::tr) t:=by
 simp only[Ab.look,if_true,wrT,h1,h2]
 rw[←hz.tv t]
 cases ho:o.dst with
 | none=>rfl
 | some d =>
  by_cases hdt:t=d
  ·subst hdt; simp [v8]
  ·have hdt':¬ d=t:=fun e=>hdt e.symm
   simp [v8,hdt,hdt']
theorem GTr.op (hz:GTr P B ops N τ0 μ0 nx0 τ μ nx tr) {v:V}{μ1:Mem}{nx1:Nat}{up rd:List Nat}{e:Eff}(hop:ops[tr.length]?=some o) (hw:jl τ ops o true) (hd:dOk N o.dst=true) (k2:GSt P B o τ μ μ1 nx nx1 v up rd e) :
  GTr P B ops N τ0 μ0 nx0 (v8 o.dst v τ) μ1 nx1 (⟨o,e,nx,false⟩::tr):=by
 have hdst:∀ d,o.dst=some d→d < N:=by intro d h1; rw[h1] at hd; simpa [dOk] using hd
 have hne:=k2.nxt
 have hτ:τ=Ab.look wrT τ0 (fun _=>true) tr:=funext hz.tv
 refine⟨hz.lookT (te:=⟨o,e,nx,false⟩) rfl k2.val,?_,?_,k2.mb hz.mb,?_⟩
 ·show nx1=nx + e.nw.length; exact hne
 ·have:=hz.le; omega
 ·intro M hM
  obtain⟨m1,m2,m3⟩:=hz.mem M hM
  have hS:(fun id=>Ab.look wrM M (fun _=>true) (⟨o,e,nx,false⟩::tr) id)=put (Ab.look wrM M (fun _=>true) tr) nx e:=by
   funext id
   simp only[Ab.look,if_true,Zn M]
   rfl
  refine⟨⟨m1,hop,hz.nxe,hdst,?_,?_⟩,?_,?_⟩
  ·rw[←hτ]; exact hw.2
  ·simp only[Bool.false_eq_true,if_false]
   rw[←hτ]; exact k2.sem _ m2
  ·have:=k2.sub hz.mb _ m2
   intro id b hb
   have h6:=this id b hb
   rw[←hS] at h6
   exact h6
  ·intro id hid hn
   obtain⟨q1,q2⟩:=m3 id (by have:=hz.le; omega) hn
   refine⟨?_,k2.kn id (by have:=hz.le; omega) q2⟩
   have h7:=congrFun hS id
   rw[show Ab.look wrM M (fun _=>true) (⟨o,e,nx,false⟩::tr) id=put (Ab.look wrM M (fun _=>true) tr) nx e id from h7]
   have ht:xf e nx id=none:=by
    unfold xf
    rw[if_neg (by have:=hz.le; omega)]
    cases hl:e.up.lookup id with
    | none=>rfl
    | some b =>
     exfalso
     obtain⟨x,hx,e1⟩:=qz hl
     obtain⟨b',hb'⟩:=k2.upk x hx
     rw[e1,q2] at hb'; cases hb'
   simp only[put,ht]
   exact q1
theorem GTr.skip (hz:GTr P B ops N τ0 μ0 nx0 τ μ nx tr) (hop:ops[tr.length]?=some o) (hw:jl τ ops o false) (hd:dOk N o.dst=true) :
  GTr P B ops N τ0 μ0 nx0 (v8 o.dst (.tup .nl) τ) μ nx (⟨o,Zl,nx,true⟩::tr):=by
 have hdst:∀ d,o.dst=some d→d < N:=by intro d h1; rw[h1] at hd; simpa [dOk] using hd
 have hτ:τ=Ab.look wrT τ0 (fun _=>true) tr:=funext hz.tv
 refine⟨hz.lookT (te:=⟨o,Zl,nx,true⟩) rfl rfl,?_,hz.le,hz.mb,?_⟩
 ·show nx=nx + 0; rfl
 ·intro M hM
  obtain⟨m1,m2,m3⟩:=hz.mem M hM
  have hS:∀ id,Ab.look wrM M (fun _=>true) (⟨o,Zl,nx,true⟩::tr) id=Ab.look wrM M (fun _=>true) tr id:=by
   intro id
   simp only[Ab.look,if_true,Zn M]
   have h1:¬ (nx≤id∧id < nx + 0):=by omega
   simp only[Zl,xf,List.length_nil,h1,if_false,List.lookup_nil]
  refine⟨⟨m1,hop,hz.nxe,hdst,by rw[←hτ]; exact hw.2,by simp [Zl]⟩,fun id b hb=>by rw[hS]; exact m2 id b hb,fun id hid hn=>by rw[hS]; exact m3 id hid hn⟩
theorem Valid.wide {P:Program}{B:Nat}{G:Nat→V}{ops:Array Oper}{N N':Nat}(hle:N≤N') {tm0:Nat→V}{m0:Mem}{n0:Nat}:∀ {tr:List TE},Valid P B G ops N tm0 m0 n0 tr→Valid P B G ops N' tm0 m0 n0 tr
 | [],_=>trivial
 | te::r,h=>⟨Valid.wide hle h.1,h.2.1,h.2.2.1,fun d hd=>Nat.lt_of_lt_of_le (h.2.2.2.1 d hd) hle,h.2.2.2.2⟩
theorem GTr.runs {id:Nat}(hmx:P.follows .mixedOrders=true) (hz:GTr P B ops N τ μ nx τ' μ' nx' tr) (hlen:tr.length=ops.size) (hTa:Apart wrT (YQ ops) xH tr) (hMa:Apart wrM YR (edT ops) tr) (hback:∀ l te r,tr=l++te::r→∀ k,xH te k=true→k < r.length):GRuns P B (.region id ops true) τ μ nx N .normal τ' μ' nx' mx:=by
 intro ro n0 H C M a hH _ hzr ht hsi
 obtain⟨hv,hsub,hfr⟩:=hz.mem M hzr.sub
 replace hv:=Valid.wide ht.size hv
 refine wpIn_region_any hmx ?_
 obtain⟨hsd,hkd⟩:=hzr.sr.drew
 have hl0:(fun i=>(Array.replicate ops.size false).getD i false)=fun _=>false:=by
  funext i
  simp only[Array.getD_eq_getD_getElem?,Array.getElem?_replicate]
  split<;>rfl
 have hno:∀ {K X:Type}(wr:TE→K→Option X) (base:K→X),Ab.look wr base (fun _=>false) tr=base:=fun wr base=>funext fun k=>wU k tr (fun i _=>rfl)
 have hps:PS B { C with w:=C.w.drew } a.tmps.size τ M tr (fun _=>false) a { C with w:=C.w.drew }:=by
  refine⟨Kp.refl B _,by rw[hno]; exact hsd,fun t=>by rw[hno]; exact R.keep hkd.toKeep _ _ (ht.tv t),fun id h=>.inl h,rfl⟩
 have hnx:=hz.nxe
 have hQ:∀(a':Act) (C':Ctx),a'.defers=a.defers→PS B { C with w:=C.w.drew } a.tmps.size τ M tr (fun _=>true) a' C'→XX ro n0 B H C M μ nx N .normal τ' μ' nx' .normal a' C'.w:=by
  intro a' C' hd hps'
  have hal:∀ id,C'.al id→C.al id∨(nx≤id∧id < nx'):=fun id hid=>by
   rcases hps'.al id hid with h1 | ⟨l,te,r,e,_,h2,h3⟩
   ·exact .inl h1
   ·have:=(vo hv).2 te (by rw[e]; simp)
    exact .inr ⟨by omega,by omega⟩
  have hgc:GC B H C M μ nx C' (Ab.look wrM M (fun _=>true) tr) μ' nx':=⟨hkd.trans hps'.kp,hal,fun id hid hn=>hfr id (by omega) hn⟩
  refine⟨rfl,C',_,rfl,⟨hps'.sr,hsub,fun id h1 h2 h3=>?_⟩,⟨fun t=>?_,by rw[hps'.size]; exact ht.size⟩,hgc,by rw[hd]; exact hsi.next hzr.sr hgc hz.le⟩
  ·rcases hal id h3 with h4 | h4
   ·exact hzr.al id (by have:=hz.le; omega) h2 h4
   ·omega
  ·have:=hps'.tm t
   rw[←hz.tv t] at this; exact this
 refine zaO (ro:=ro) (C0:={ C with w:=C.w.drew }) (G:=Gl.G) hv hlen hTa hMa hback (fun id h1 h2=>hzr.al id h1 (by omega)) (fun g C' hk'=>R.keep hk' _ _ (hsd.gl g)) a.defers hQ ops.size (Array.replicate ops.size false) a _ (by simp) ?_ ?_ rfl (by rw[hl0]; exact hps)
 ·have:=List.countP_le_length (p:=fun i=>!(Array.replicate ops.size false).getD i false) (l:=List.range ops.size)
  simpa using this
 ·intro l te r e hs'
  rw[hl0] at hs'; cases hs'
theorem GTr.runsL {id:Nat}{o:Oper}{v:V}{μ2:Mem}{nx2 mx2:Nat}(hmx:P.follows .mixedOrders=true) (hz:GTr P B ops N τ μ nx τ' μ' nx' tr) (hlen:tr.length + 1=ops.size) (hol:ops[tr.length]?=some o) (hlast:∀ k,k < tr.length→xT ops 6 o k=true) (hbl:∀ k,xd o k=true→k < tr.length) (hw:jl τ' ops o true) (hd:dOk N o.dst=true) (hop:GOp P B o τ' μ' nx' v μ2 nx2 mx2) (hn2:nx'≤nx2) (hTa:Apart wrT (YQ ops) xH tr) (hMa:Apart wrM YR (edT ops) tr) (hback:∀ l te r,tr=l++te::r→∀ k,xH te k=true→k < r.length):GRuns P B (.region id ops true) τ μ nx N .normal (v8 o.dst v τ') μ2 nx2 mx2:=by
 intro ro n0 H C M a hH2 hx2 hzr ht hsi
 have hH:nx'≤H:=Nat.le_trans hn2 hH2
 obtain⟨hv,hsub,hfr⟩:=hz.mem M hzr.sub
 replace hv:=Valid.wide ht.size hv
 refine wpIn_region_any hmx ?_
 obtain⟨hsd,hkd⟩:=hzr.sr.drew
 have hl0:(fun i=>(Array.replicate ops.size false).getD i false)=fun _=>false:=by
  funext i
  simp only[Array.getD_eq_getD_getElem?,Array.getElem?_replicate]
  split<;>rfl
 have hno:∀ {K X:Type}(wr:TE→K→Option X) (base:K→X),Ab.look wr base (fun _=>false) tr=base:=fun wr base=>funext fun k=>wU k tr (fun i _=>rfl)
 have hps:PS B { C with w:=C.w.drew } a.tmps.size τ M tr (fun _=>false) a { C with w:=C.w.drew }:=by
  refine⟨Kp.refl B _,by rw[hno]; exact hsd,fun t=>by rw[hno]; exact R.keep hkd.toKeep _ _ (ht.tv t),fun id h=>.inl h,rfl⟩
 have hnx:=hz.nxe
 have hQ:∀(a':Act) (C':Ctx),a'.defers=a.defers→PS B { C with w:=C.w.drew } a.tmps.size τ M tr (fun _=>true) a' C'→∀ R:Act→World→Prop,(∀ a w,XX ro n0 B H C M μ nx N .normal (v8 o.dst v τ') μ2 nx2 .normal a w→R a w)→wpOpIn (FR ro) 0 P ops (XX ro n0 B H C M μ nx N .normal (v8 o.dst v τ') μ2 nx2) tr.length R a' C'.w:=by
  intro a' C' hd' hps' R hR
  have hal:∀ id,C'.al id→C.al id∨(nx≤id∧id < nx'):=fun id hid=>by
   rcases hps'.al id hid with h1 | ⟨l,te,r,e,_,h2,h3⟩
   ·exact .inl h1
   ·have:=(vo hv).2 te (by rw[e]; simp)
    exact .inr ⟨by omega,by omega⟩
  have hgc:GC B H C M μ nx C' (Ab.look wrM M (fun _=>true) tr) μ' nx':=⟨hkd.trans hps'.kp,hal,fun id hid hn=>hfr id (by omega) hn⟩
  have hgr:GR B H C' (Ab.look wrM M (fun _=>true) tr) μ' nx':=⟨hps'.sr,hsub,fun id h1 h2 h3=>by
   rcases hal id h3 with h4 | h4
   ·exact hzr.al id (by have:=hz.le; omega) h2 h4
   ·omega⟩
  have hgt:GT C' τ' a' N:=⟨fun t=>by
   have:=hps'.tm t
   rw[←hz.tv t] at this; exact this,by rw[hps'.size]; exact ht.size⟩
  have hsd2:Side ro n0 H C' (Ab.look wrM M (fun _=>true) tr) μ' nx' a'.defers:=by rw[hd']; exact hsi.next hzr.sr hgc hz.le
  unfold wpOpIn
  simp only[hol]
  rw[if_pos (hw.1 C' a' N hgt)]
  refine hop ro H C' _ a' _ _ hH2 hx2 hgr (fun x _=>hgt.operand hgr.sr.gl x) ?_
  intro val C2 M2 q2 q3 q4
  exact hR _ _ ⟨rfl,C2,M2,rfl,q3,(hgt.keep q4.kp.toKeep).put hd q2,hgc.trans q4 hz.le hn2,by rw[jP]; exact hsd2.next hgr.sr q4 hn2⟩
 refine zaP (ro:=ro) (C0:={ C with w:=C.w.drew }) (G:=Gl.G) hv hlen hol hlast hbl hTa hMa hback (fun id h1 h2=>hzr.al id h1 (by omega)) (fun g C' hk'=>R.keep hk' _ _ (hsd.gl g)) a.defers hQ ops.size (Array.replicate ops.size false) a _ (by simp) (by rw[show (Array.replicate ops.size false).getD tr.length false=false from congrFun hl0 tr.length]) ?_ ?_ rfl (by rw[hl0]; exact hps)
 ·have:=List.countP_le_length (p:=fun i=>!(Array.replicate ops.size false).getD i false) (l:=List.range ops.size)
  simpa using this
 ·intro l te r e hs'
  rw[hl0] at hs'; cases hs'
theorem GTr.runsLL {id:Nat}{o o2:Oper}{v v2:V}{μ2 μ3:Mem}{nx2 mx2 nx3 mx3:Nat}(hmx:P.follows .mixedOrders=true) (hz:GTr P B ops N τ μ nx τ' μ' nx' tr) (hlen:tr.length + 2=ops.size) (ho2:ops[tr.length + 1]?=some o2) (h2e:xd o2 tr.length=true) (h2b:∀ k,xd o2 k=true→k < tr.length + 1) (hw2:jl (v8 o.dst v τ') ops o2 true) (hd2:dOk N o2.dst=true) (hop2:GOp P B o2 (v8 o.dst v τ') μ2 nx2 v2 μ3 nx3 mx3) (hn3:nx2≤nx3) (hx3:mx2≤mx3) (hol:ops[tr.length]?=some o) (hlast:∀ k,k < tr.length→xT ops 6 o k=true) (hbl:∀ k,xd o k=true→k < tr.length) (hw:jl τ' ops o true) (hd:dOk N o.dst=true) (hop:GOp P B o τ' μ' nx' v μ2 nx2 mx2) (hn2:nx'≤nx2) (hTa:Apart wrT (YQ ops) xH tr) (hMa:Apart wrM YR (edT ops) tr) (hback:∀ l te r,tr=l++te::r→∀ k,xH te k=true→k < r.length):GRuns P B (.region id ops true) τ μ nx N .normal (v8 o2.dst v2 (v8 o.dst v τ')) μ3 nx3 mx3:=by
 intro ro n0 H C M a hH3 hxH hzr ht hsi
 have hH2:nx2≤H:=Nat.le_trans hn3 hH3
 have hx2:mx2≤H:=Nat.le_trans hx3 hxH
 have hH:nx'≤H:=Nat.le_trans hn2 hH2
 obtain⟨hv,hsub,hfr⟩:=hz.mem M hzr.sub
 replace hv:=Valid.wide ht.size hv
 refine wpIn_region_any hmx ?_
 obtain⟨hsd,hkd⟩:=hzr.sr.drew
 have hl0:(fun i=>(Array.replicate ops.size false).getD i false)=fun _=>false:=by
  funext i
  simp only[Array.getD_eq_getD_getElem?,Array.getElem?_replicate]
  split<;>rfl
 have hno:∀ {K X:Type}(wr:TE→K→Option X) (base:K→X),Ab.look wr base (fun _=>false) tr=base:=fun wr base=>funext fun k=>wU k tr (fun i _=>rfl)
 have hps:PS B { C with w:=C.w.drew } a.tmps.size τ M tr (fun _=>false) a { C with w:=C.w.drew }:=by
  refine⟨Kp.refl B _,by rw[hno]; exact hsd,fun t=>by rw[hno]; exact R.keep hkd.toKeep _ _ (ht.tv t),fun id h=>.inl h,rfl⟩
 have hnx:=hz.nxe
 have hQ:∀(a':Act) (C':Ctx),a'.defers=a.defers→PS B { C with w:=C.w.drew } a.tmps.size τ M tr (fun _=>true) a' C'→∀ R:Act→World→Prop,(∀ a w,(∀ R2:Act→World→Prop,(∀ a w,XX ro n0 B H C M μ nx N .normal (v8 o2.dst v2 (v8 o.dst v τ')) μ3 nx3 .normal a w→R2 a w)→wpOpIn (FR ro) 0 P ops (XX ro n0 B H C M μ nx N .normal (v8 o2.dst v2 (v8 o.dst v τ')) μ3 nx3) (tr.length + 1) R2 a w)→R a w)→wpOpIn (FR ro) 0 P ops (XX ro n0 B H C M μ nx N .normal (v8 o2.dst v2 (v8 o.dst v τ')) μ3 nx3) tr.length R a' C'.w:=by
  intro a' C' hd' hps' R hR
  have hal:∀ id,C'.al id→C.al id∨(nx≤id∧id < nx'):=fun id hid=>by
   rcases hps'.al id hid with h1 | ⟨l,te,r,e,_,h2,h3⟩
   ·exact .inl h1
   ·have:=(vo hv).2 te (by rw[e]; simp)
    exact .inr ⟨by omega,by omega⟩
  have hgc:GC B H C M μ nx C' (Ab.look wrM M (fun _=>true) tr) μ' nx':=⟨hkd.trans hps'.kp,hal,fun id hid hn=>hfr id (by omega) hn⟩
  have hgr:GR B H C' (Ab.look wrM M (fun _=>true) tr) μ' nx':=⟨hps'.sr,hsub,fun id h1 h2 h3=>by
   rcases hal id h3 with h4 | h4
   ·exact hzr.al id (by have:=hz.le; omega) h2 h4
   ·omega⟩
  have hgt:GT C' τ' a' N:=⟨fun t=>by
   have:=hps'.tm t
   rw[←hz.tv t] at this; exact this,by rw[hps'.size]; exact ht.size⟩
  have hsd2:Side ro n0 H C' (Ab.look wrM M (fun _=>true) tr) μ' nx' a'.defers:=by rw[hd']; exact hsi.next hzr.sr hgc hz.le
  unfold wpOpIn
  simp only[hol]
  rw[if_pos (hw.1 C' a' N hgt)]
  refine hop ro H C' _ a' _ _ hH2 hx2 hgr (fun x _=>hgt.operand hgr.sr.gl x) ?_
  intro val C2 M2 q2 q3 q4
  have hgt2:=(hgt.keep q4.kp.toKeep).put hd q2
  refine hR _ _ fun R2 hR2=>?_
  unfold wpOpIn
  simp only[ho2]
  rw[if_pos (hw2.1 C2 _ N hgt2)]
  refine hop2 ro H C2 _ _ _ _ hH3 hxH q3 (fun x _=>hgt2.operand q3.sr.gl x) ?_
  intro val2 C3 M3 r2 r3 r4
  exact hR2 _ _ ⟨rfl,C3,M3,rfl,r3,(hgt2.keep r4.kp.toKeep).put hd2 r2,(hgc.trans q4 hz.le hn2).trans r4 (Nat.le_trans hz.le hn2) hn3,by rw[jP,jP]; exact (hsd2.next hgr.sr q4 hn2).next q3.sr r4 hn3⟩
 refine W4 (ro:=ro) (C0:={ C with w:=C.w.drew }) (G:=Gl.G) hv hlen ho2 h2e h2b hol hlast hbl hTa hMa hback (fun id h1 h2=>hzr.al id h1 (by omega)) (fun g C' hk'=>R.keep hk' _ _ (hsd.gl g)) a.defers hQ ops.size (Array.replicate ops.size false) a _ (by simp) (by rw[show (Array.replicate ops.size false).getD tr.length false=false from congrFun hl0 tr.length]) (by rw[show (Array.replicate ops.size false).getD (tr.length + 1) false=false from congrFun hl0 (tr.length + 1)]) ?_ ?_ rfl (by rw[hl0]; exact hps)
 ·have:=List.countP_le_length (p:=fun i=>!(Array.replicate ops.size false).getD i false) (l:=List.range ops.size)
  simpa using this
 ·intro l te r e hs'
  rw[hl0] at hs'; cases hs'
end
end
end
end Go.K
namespace Go.K
open Go.Ab Go.RowKit Go.Y
noncomputable section
class KGl where
 g:Nat→KV
 cl:Bool:=false
instance instGl [KGl]:Gl:={ G:=fun i=>(KGl.g i).v,cl:=KGl.cl }
variable [KGl]
def chk (c:Bool) (n:Nat) (p:Prop):Prop:=@Bool.rec (fun _=>Prop) (BadN n) p c
omit [KGl] in
theorem ze {c:Bool}{n:Nat}{p:Prop}(h:chk c n p):c=true∧p:=by
 cases c with
 | false=>exact (show BadN n from h).elim
 | true=>exact⟨rfl,h⟩
def os {α:Type}(n:Nat) (f:α→Prop) (o:Option α):Prop:=@Option.rec α (fun _=>Prop) (BadN n) f o
omit [KGl] in
theorem xg {α:Type}{n:Nat}{f:α→Prop}{o:Option α}(h:os n f o):∃ x,o=some x∧f x:=by
 cases o with
 | none=>exact (show BadN n from h).elim
 | some x=>exact⟨x,rfl,h⟩
structure KBlk where
 k:Kind
 sh:Shape
 v:KV
def KBlk.b (x:KBlk):Blk:=⟨x.k,x.sh,x.v.v⟩
abbrev KZ:=Tr (Option KBlk)
def kb (zm:KZ) (id:Nat):Option KBlk:=get none (enc id) zm
def am (zm:KZ):Mem:=fun id=>(kb zm id).map KBlk.b
omit [KGl] in
theorem WM {zm:KZ}{x:Option KBlk}{i id:Nat}:kb (set x (enc i) zm) id=if id=i then x else kb zm id:=Xh _ _ _ _ _
omit [KGl] in
theorem wA {zm:KZ}{b:KBlk}{id:Nat}:am (set (some b) (enc id) zm)=upd (am zm) id (some b.b):=by
 funext i
 unfold am upd
 rw[WM]
 split<;>rfl
omit [KGl] in
theorem J8:am .e=fun _=>none:=by funext i; unfold am kb; rw[XL]; rfl
omit [KGl] in
theorem zJ {zm:KZ}{id:Nat}{x:KBlk}(h:kb zm id=some x):am zm id=some x.b:=by unfold am; rw[h]; rfl
abbrev KT:=KV→KZ→Nat→List Nat→List Nat→Prop
def oB (zm:KZ) (id:Nat) (f:Kind→Shape→KV→Prop):Prop:=os 1 (fun x=>@KBlk.rec (fun _=>Prop) (fun k sh v=>f k sh v) x) (kb zm id)
omit [KGl] in
theorem xL {zm:KZ}{id:Nat}{f:Kind→Shape→KV→Prop}(h:oB zm id f):∃ k sh v,kb zm id=some ⟨k,sh,v⟩∧f k sh v:=by
 obtain⟨⟨k,sh,v⟩,h1,h2⟩:=xg h
 exact⟨k,sh,v,h1,h2⟩
def wg (k:Kind):Bool:=@Kind.rec (fun _=>Bool) (fun _=>true) (fun _=>true) false (fun _ _ _ _=>false) false k
omit [KGl] in
theorem xk (k:Kind) (sh:Shape) (v:V):(Blk.mk k sh v).alive=wg k:=by cases k<;>rfl
def nwB (k:Kind) (sh:Shape) (v:KV) (zm:KZ) (nx:Nat) (K:KZ→Nat→Prop):Prop:=fV v fun v=>vc (some ⟨k,sh,v⟩) (enc nx) zm fun zm=>zW (Nat.succ nx) fun nx=>K zm nx
theorem zhe (k:Kind) (sh:Shape) (v:KV) (zm:KZ) (nx:Nat) (K:KZ→Nat→Prop):nwB k sh v zm nx K=K (set (some ⟨k,sh,v⟩) (enc nx) zm) (nx + 1):=by
 unfold nwB; rw[xC,xz,zZ]
def upB (id:Nat) (k:Kind) (sh:Shape) (v:KV) (zm:KZ) (K:KZ→Prop):Prop:=fV v fun v=>vc (some ⟨k,sh,v⟩) (enc id) zm K
theorem VX (id:Nat) (k:Kind) (sh:Shape) (v:KV) (zm:KZ) (K:KZ→Prop):upB id k sh v zm K=K (set (some ⟨k,sh,v⟩) (enc id) zm):=by
 unfold upB; rw[xC,xz]
def XO:List UInt8→Nat
 | []=>0
 | b::l=>b.toNat + 256 * XO l
omit [KGl] in
theorem QG:∀(l:List UInt8) (i:Nat),pkr .u8 (XO l) i=(l.getD i 0).toNat
 | [],i=>by
  show bts 0 (8 * i) 8=0
  apply Nat.eq_of_testBit_eq; intro b
  rw[xb]; simp
 | b::l,0=>by
  show (b.toNat + 256 * XO l) >>> (8 * 0) % 2 ^ 8=b.toNat
  have:=b.toNat_lt
  rw[Nat.mul_zero,Nat.shiftRight_zero]; omega
 | b::l,i + 1=>by
  have h:=QG l i
  rw[show (b::l).getD (i + 1) 0=l.getD i 0 from rfl,←h]
  show (b.toNat + 256 * XO l) >>> (8 * (i + 1)) % 2 ^ 8=XO l >>> (8 * i) % 2 ^ 8
  have hb:=b.toNat_lt
  rw[show 8 * (i + 1)=8 + 8 * i by omega,Nat.shiftRight_add]
  congr 2
  rw[Nat.shiftRight_eq_div_pow]; omega
omit [KGl] in
theorem WN (s:ByteArray):zL s.size (XO s.data.toList)=s:=by
 obtain⟨⟨l⟩⟩:=s
 show ByteArray.mk ⟨_⟩=_
 congr 2
 apply List.ext_getElem?
 intro i
 show ((List.range l.length).map fun i=>UInt8.ofNat (pkr .u8 (XO l) i))[i]?=l[i]?
 rw[List.getElem?_map]
 by_cases hi:i < l.length
 ·rw[List.getElem?_range hi,Option.map_some,QG,List.getElem?_eq_getElem hi]
  congr 1
  rw[List.getD_eq_getElem?_getD,List.getElem?_eq_getElem hi,Option.getD_some]
  exact UInt8.ofNat_toNat
 ·rw[List.getElem?_eq_none (by simpa using hi),List.getElem?_eq_none (by simpa using hi)]; rfl
def Xm (v:Value):KV:=match v with
 | .int k n=>.int k n
 | .bool b=>.bool b
 | .string s=>.str s.size (XO s.data.toList)
 | .pointer none=>.nilp
 | .slice none 0 0=>.nils
 | .nilFunc=>.nilf
 | .nilIface=>.fn 2147483648 .nl
 | _=>.unk
omit [KGl] in
theorem VY (v:Value):(Xm v).v=V.ofVal v:=by
 unfold Xm V.ofVal
 split
 ·rfl
 ·rfl
 ·rw[zdU,WN]
 ·rfl
 ·rfl
 ·rfl
 ·rfl
 ·split<;>first
   | rfl
   | (exfalso; simp_all; done)
def kev (τ:Nat→KV) (x:Operand):KV:=@Operand.rec (fun _=>(Nat→KV)→KV) (fun t τ=>τ t) (fun v _=>Xm v) (fun g _=>KGl.g g) (fun f _=>@Bool.rec (fun _=>KV) .unk (.fn f .nl) (Nat.blt f 1073741824)) x τ
def tv' (τ:Nat→KV):Nat→V:=fun t=>(τ t).v
theorem zK (τ:Nat→KV) (x:Operand):(kev τ x).v=opv Gl.G (tv' τ) x:=by
 cases x with
 | tmp t=>rfl
 | const v=>exact VY v
 | global g=>rfl
 | func f =>
  show (@Bool.rec (fun _=>KV) .unk (.fn f .nl) (Nat.blt f 1073741824)).v=@Bool.rec (fun _=>V) .unk (.fn f .nl) (Nat.blt f 1073741824)
  cases Nat.blt f 1073741824<;>rfl
def Out (P:Program) (B:Nat) (o:Oper) (τ:Nat→KV) (lo:Nat) (zm:KZ) (nx:Nat) (K:KT):Prop :=
 ∃(v:KV) (zm':KZ) (nx':Nat) (up rd:List Nat) (e:Eff),K v zm' nx' up rd∧e.v=v.v∧nx'=nx + e.nw.length∧e.up.map (·.1)=up∧e.rd=rd∧am zm'=put (am zm) nx e ∧
  OpSem P B o (opv Gl.G (tv' τ)) (am zm) nx e∧UpIn (am zm) e∧∀ id∈up,lo≤id
section
variable {P:Program}{B:Nat}{o:Oper}{τ:Nat→KV}{lo:Nat}{zm:KZ}{nx:Nat}{K:KT}
theorem Out.pure {v:KV}{e:Eff}{rd:List Nat}(hK:K v zm nx [] rd) (h:OpSem P B o (opv Gl.G (tv' τ)) (am zm) nx e∧UpIn (am zm) e) (he:EImp e ⟨v.v,[],[],rd⟩):Out P B o τ lo zm nx K :=
 ⟨v,zm,nx,[],rd,⟨v.v,[],[],rd⟩,hK,rfl,rfl,rfl,rfl,by rw[VR],wX h.1 he,Zy h.2 he,by intro id hid; cases hid⟩
theorem Out.new {v:KV}{e:Eff}{rd:List Nat}{k:Kind}{sh:Shape}{x:KV}(hK:nwB k sh x zm nx fun zm nx=>K v zm nx [] rd) (h:OpSem P B o (opv Gl.G (tv' τ)) (am zm) nx e∧UpIn (am zm) e) (he:EImp e ⟨v.v,[],[⟨k,sh,x.v⟩],rd⟩):Out P B o τ lo zm nx K:=by
 rw[zhe] at hK
 exact⟨v,_,_,[],rd,⟨v.v,[],[⟨k,sh,x.v⟩],rd⟩,hK,rfl,rfl,rfl,rfl,by rw[jA,wA]; rfl,wX h.1 he,Zy h.2 he,by intro id hid; cases hid⟩
theorem Out.up {v:KV}{e:Eff}{rd:List Nat}{id:Nat}{k:Kind}{sh:Shape}{x:KV}(hK:upB id k sh x zm fun zm=>K v zm nx [id] rd) (hlo:lo≤id) (h:OpSem P B o (opv Gl.G (tv' τ)) (am zm) nx e∧UpIn (am zm) e) (he:EImp e ⟨v.v,[(id,⟨k,sh,x.v⟩)],[],rd⟩):Out P B o τ lo zm nx K:=by
 rw[VX] at hK
 exact⟨v,_,_,[id],rd,⟨v.v,[(id,⟨k,sh,x.v⟩)],[],rd⟩,hK,rfl,rfl,rfl,rfl,by rw[yT,wA]; rfl,wX h.1 he,Zy h.2 he,by intro i hi; simp only[List.mem_singleton] at hi; subst hi; exact hlo⟩
theorem Out.upnew {v:KV}{e:Eff}{rd:List Nat}{id:Nat}{k:Kind}{sh:Shape}{x:KV}{k2:Kind}{sh2:Shape}{x2:KV}(hid:id < nx) (hK:upB id k2 sh2 x2 zm fun zm=>nwB k sh x zm nx fun zm nx=>K v zm nx [id] rd) (hlo:lo≤id) (h:OpSem P B o (opv Gl.G (tv' τ)) (am zm) nx e∧UpIn (am zm) e) (he:EImp e ⟨v.v,[(id,⟨k2,sh2,x2.v⟩)],[⟨k,sh,x.v⟩],rd⟩):Out P B o τ lo zm nx K:=by
 rw[VX,zhe] at hK
 refine⟨v,_,_,[id],rd,⟨v.v,[(id,⟨k2,sh2,x2.v⟩)],[⟨k,sh,x.v⟩],rd⟩,hK,rfl,rfl,rfl,rfl,?_,wX h.1 he,Zy h.2 he,by intro i hi; simp only[List.mem_singleton] at hi; subst hi; exact hlo⟩
 rw[wA,wA]
 funext i
 unfold put xf upd
 simp only[List.length_cons,List.length_nil]
 by_cases h1:i=nx
 ·subst h1; simp; rfl
 ·rw[if_neg h1,if_neg (show ¬ (nx≤i∧i < nx + (0 + 1)) by omega)]
  by_cases h2:i=id
  ·subst h2; simp [List.lookup]; rfl
  ·have:(i==id)=false:=by simpa using h2
   simp [List.lookup,this,h2]
end
def VZ (s:Shape) (n:Nat) (f:Shape→Bool):Bool:=@Shape.rec (fun _=>Bool) false false (fun _ _ _ _=>false) (fun m e _=>@Bool.rec (fun _=>Bool) false (f e) (Nat.beq n m)) s
def xF (s:Shape):Bool:=@Shape.rec (fun _=>Bool) true false (fun _ _ _ _=>false) (fun _ _ _=>false) s
def zn8 (s:Shape):Bool:=@Shape.rec (fun _=>Bool) false true (fun _ _ _ _=>false) (fun _ _ _=>false) s
def zn9 (s:Shape) (f:Shape→Shape→Bool):Bool:=@Shape.rec (fun _=>Bool) false false (fun a b _ _=>f a b) (fun _ _ _=>false) s
def nd (a b:Bool):Bool:=@Bool.rec (fun _=>Bool) false b a
omit [KGl] in
theorem zd {a b:Bool}:nd a b=true↔a=true∧b=true:=by cases a<;>simp [nd]
def zhf (v:KV):Bool:=match v with
 | .unk=>true
 | _=>false
def zvi (v:KV) (b:Bool) (e:Shape):Bool:=@Bool.rec (fun _=>Bool) (nd (zhf v) (xF e)) true b
def v9 (v:KV):Bool→Shape→Bool:=@KV.rec (fun _=>Bool→Shape→Bool) (fun x0 x1 m sh=>nd m (xF sh)) (fun x0 m sh=>nd m (xF sh)) (fun x0 x1 m sh=>nd m (xF sh)) (fun  m sh=>nd m (zn8 sh)) (fun x0 x1 r0 r1 m sh=>nd m (zn9 sh fun a b=>nd (r0 true a) (r1 true b))) (fun x0 x1 x2 m sh=>nd m (VZ sh x1 xF)) (fun x0 x1 x2 r0 r1 m sh=>nd m (VZ sh x0 fun e=>nd (zvi x1 (r0 true e) e) (r1 false e))) (fun  m sh=>@Bool.rec (fun _=>Bool) true false m) (fun x0 x1 x2 x3 r0 r1 r2 r3 m sh=>@Bool.rec (fun _=>Bool) (nd (r0 false sh) (nd (r1 false sh) (nd (r2 false sh) (r3 false sh)))) false m) (fun x0 x1 x2 x3 x4 r0 r1 r2 r3 r4 m sh=>@Bool.rec (fun _=>Bool) (nd (r0 true sh) (nd (r1 false sh) (nd (r2 false sh) (nd (r3 false sh) (r4 false sh))))) false m) (fun x0 x1 x2 m sh=>nd m (xF sh)) (fun x0 x1 x2 m sh=>nd m (xF sh)) (fun x0 x1 x2 x3 x4 x5 m sh=>nd m (xF sh)) (fun x0 x1 x2 r0 m sh=>nd m (xF sh)) (fun  m sh=>nd m (xF sh)) (fun  m sh=>nd m (xF sh)) (fun  m sh=>nd m (xF sh)) (fun x0 x1 x2 x3 x4 x5 r0 m sh=>nd m (xF sh)) (fun x0 x1 r0 m sh=>nd m (xF sh)) (fun x0 r0 m sh=>false) (fun  m sh=>false) (fun _=>(fun  m sh=>nd m (xF sh))) (fun x0 x1 r m sh=>nd m (VZ sh x0 fun e=>qa x0 fun i=>r i true e)) (fun x0 r m sh=>nd m (xF sh)) v
omit [KGl] in
theorem jB {s:Shape}(h:xF s=true):s=.sc:=by cases s<;>first | rfl | cases h
omit [KGl] in
theorem WO {s:Shape}{n:Nat}{f:Shape→Bool}(h:VZ s n f=true):∃ e,s=.arr n e∧f e=true:=by
 cases s with
 | arr m e =>
  have h1:@Bool.rec (fun _=>Bool) false (f e) (Nat.beq n m)=true:=h
  cases hb:Nat.beq n m with
  | false=>rw[hb] at h1; cases h1
  | true=>rw[hb] at h1; rw[Nat.eq_of_beq_eq_true hb]; exact⟨e,rfl,h1⟩
 | _=>cases h
def Fit (v:KV) (s:Shape):Prop:=v.v.fits s=true∧v.v.known=true
omit [KGl] in
theorem zqs (v:KV):∀(s:Shape),(v9 v true s=true→Fit v s)∧(v9 v false s=true→∀(p:Pth) (z:V),z.fits s=true→(v.atv p z).fits s=true):=by
 induction v with
 | cons a b ih1 ih2 =>
  intro s
  refine⟨fun h=>?_,fun h=>(by cases h)⟩
  have h0:zn9 s (fun x y=>nd (v9 a true x) (v9 b true y))=true:=h
  cases s with
  | cons x y =>
   obtain⟨h1,h2⟩:=zd.1 (show nd (v9 a true x) (v9 b true y)=true from h0)
   have q1:=((ih1 x).1 h1).1
   have q2:=((ih2 y).1 h2).1
   refine⟨?_,rfl⟩
   show (a.v.fits x&&b.v.fits y)=true
   rw[q1,q2]; rfl
  | _=>cases h0
 | nl =>
  intro s
  refine⟨fun h=>?_,fun h=>(by cases h)⟩
  have h0:zn8 s=true:=h
  cases s<;>first | exact⟨rfl,rfl⟩ | cases h0
 | pk k n x =>
  intro s
  refine⟨fun h=>?_,fun h=>(by cases h)⟩
  obtain⟨e,rfl,he⟩:=WO (show VZ s n xF=true from h)
  obtain rfl:=jB he
  refine⟨?_,rfl⟩
  show (n==n&&(List.range n).all fun i=>(V.int k (pkg k x i)).fits .sc)=true
  simp [V.fits]
 | ar n d t ih1 ih2 =>
  intro s
  refine⟨fun h=>?_,fun h=>(by cases h)⟩
  obtain⟨e,rfl,he⟩:=WO (show VZ s n (fun e=>nd (zvi d (v9 d true e) e) (v9 t false e))=true from h)
  obtain⟨h1,h2⟩:=zd.1 he
  refine⟨?_,rfl⟩
  show (n==n&&(List.range n).all fun i=>(t.atv (enc i) d.v).fits e)=true
  simp only[beq_self_eq_true,Bool.true_and,List.all_eq_true]
  intro i _
  refine (ih2 e).2 h2 _ _ ?_
  cases hk:v9 d true e with
  | true=>exact ((ih1 e).1 hk).1
  | false =>
   rw[hk] at h1
   obtain⟨h3,h4⟩:=zd.1 (show nd (zhf d) (xF e)=true from h1)
   obtain rfl:=jB h4
   cases d<;>first | rfl | cases h3
 | fa n f ih =>
  intro s
  refine⟨fun h=>?_,fun h=>(by cases h)⟩
  obtain⟨e,rfl,he⟩:=WO (show VZ s n (fun e=>qa n fun i=>v9 (f i) true e)=true from h)
  refine⟨?_,rfl⟩
  show (n==n&&(List.range n).all fun i=>(f i).v.fits e)=true
  simp only[beq_self_eq_true,Bool.true_and,List.all_eq_true]
  intro i hi
  exact ((ih i e).1 (xE.1 he i (List.mem_range.1 hi))).1
 | clo x ih =>
  intro s
  refine⟨fun h=>?_,fun h=>(by cases h)⟩
  obtain rfl:=jB (show xF s=true from h)
  exact (Ji x.v).2
 | te=>intro s; exact⟨fun h=>(by cases h),fun _ p z hz=>hz⟩
 | tb a b c d ih1 ih2 ih3 ih4 =>
  intro s
  refine⟨fun h=>(by cases h),fun h p z hz=>?_⟩
  have h0:nd (v9 a false s) (nd (v9 b false s) (nd (v9 c false s) (v9 d false s)))=true:=h
  simp only[zd] at h0
  cases p with
  | nil=>exact hz
  | cons g p =>
   cases g
   ·exact (ih1 s).2 h0.1 p z hz
   ·exact (ih2 s).2 h0.2.1 p z hz
   ·exact (ih3 s).2 h0.2.2.1 p z hz
   ·exact (ih4 s).2 h0.2.2.2 p z hz
 | tn x a b c d ih0 ih1 ih2 ih3 ih4 =>
  intro s
  refine⟨fun h=>(by cases h),fun h p z hz=>?_⟩
  have h0:nd (v9 x true s) (nd (v9 a false s) (nd (v9 b false s) (nd (v9 c false s) (v9 d false s))))=true:=h
  simp only[zd] at h0
  cases p with
  | nil=>exact ((ih0 s).1 h0.1).1
  | cons g p =>
   cases g
   ·exact (ih1 s).2 h0.2.1 p z hz
   ·exact (ih2 s).2 h0.2.2.1 p z hz
   ·exact (ih3 s).2 h0.2.2.2.1 p z hz
   ·exact (ih4 s).2 h0.2.2.2.2 p z hz
 | tup l=>intro s; exact⟨fun h=>(by cases h),fun h=>(by cases h)⟩
 | unk=>intro s; exact⟨fun h=>(by cases h),fun h=>(by cases h)⟩
 | _ =>
  intro s
  refine⟨fun h=>?_,fun h=>(by cases h)⟩
  obtain rfl:=jB (show xF s=true from h)
  exact⟨rfl,rfl⟩
def ZD (v:KV) (s:Shape):Bool:=v9 v true s
omit [KGl] in
theorem j5 {v:KV}{s:Shape}(h:ZD v s=true):v.v.fits s=true∧v.v.known=true:=(zqs v s).1 h
end
end Go.K
namespace Go.K
open Go.Ab Go.RowKit Go.Y
noncomputable section
variable [KGl]
def wc (n:Nat) (z:KV):KV:=match z with
 | .int k a=>bif nd Gl.cl (eqI a 0) then .pk k n 0 else .ar n z .te
 | z=>.ar n z .te
theorem ZC (n:Nat) (z:KV):(wc n z).v=.arr n fun _=>z.v:=by
 unfold wc
 split
 ·rename_i k a
  cases h:nd Gl.cl (eqI a 0) with
  | false=>rfl
  | true =>
   have h:=(zd.1 h).2
   rw[Xd] at h
   obtain rfl:a=0:=by simpa using h
   show V.arr n (fun i=>.int k (pkg k 0 i))=_
   congr 1; funext i; rw[zh7]; rfl
 ·rfl
def VV (P:Program):Nat→TypeId→KV
 | 0,_=>.unk
 | d + 1,t=>match P.underlying t with
  | some (.struct fs)=>fs.toList.foldr (fun f acc=>.cons (VV P d f.type) acc) .nl
  | some (.array n e)=>wc n (VV P d e)
  | _=>match P.info? t with
   | some i=>match i.zero with
    | some z=>Xm z
    | none=>.unk
   | none=>.unk
theorem zaA (P:Program):∀(d:Nat) (t:TypeId),(VV P d t).v=VP P d t
 | 0,_=>rfl
 | d + 1,t=>by
  have ih:=zaA P d
  unfold VV VP
  cases hu:P.underlying t with
  | none =>
   simp only
   cases P.info? t with
   | none=>rfl
   | some i =>
    simp only
    cases i.zero with
    | none=>rfl
    | some z=>exact VY z
  | some x =>
   cases x<;>simp only
   case struct fs =>
    generalize fs.toList=l
    induction l with
    | nil=>rfl
    | cons f l ihl=>simp only[List.foldr_cons,zb7,ih,ihl]
   case array n e=>rw[ZC,ih]
   all_goals
    cases P.info? t with
    | none=>rfl
    | some i =>
     simp only
     cases i.zero with
     | none=>rfl
     | some z=>exact VY z
def wx (P:Program) (t:TypeId):Option (Shape×KV):=match xu P t with
 | some (s,_)=>some (s,VV P 12 t)
 | none=>none
theorem wy {P:Program}{t:TypeId}{s:Shape}{z:KV}(h:wx P t=some (s,z)):xu P t=some (s,z.v):=by
 unfold wx at h
 split at h
 ·rename_i s' z' hz
  simp only[Option.some.injEq,Prod.mk.injEq] at h
  obtain⟨rfl,rfl⟩:=h
  rw[hz,zaA]
  unfold xu at hz
  split at hz
  ·split at hz
   ·split at hz
    ·simp only[Option.some.injEq,Prod.mk.injEq] at hz; rw[hz.2]
    ·cases hz
   ·cases hz
  ·cases hz
 ·cases h
def pr {α β:Type}(f:α→β→Prop) (x:α×β):Prop:=@Prod.rec α β (fun _=>Prop) f x
section
variable {P:Program}{B:Nat}{o:Oper}{τ:Nat→KV}{lo:Nat}{zm:KZ}{nx:Nat}{K:KT}
def zg3 (P:Program) (t:TypeId) (zm:KZ) (nx:Nat) (K:KT):Prop:=os 30 (pr fun s z=>nwB (.box t) s z zm nx fun zm nx'=>K (.ptr nx [] s) zm nx' [] []) (wx P t)
theorem zg4 {t:TypeId}(ho:o.op=.alloc t) (h:zg3 P t zm nx K):Out P B o τ lo zm nx K:=by
 obtain⟨⟨s,z⟩,h1,h2⟩:=xg h
 have hz:=wy h1
 exact Out.new (v:=.ptr nx [] s) h2 (zag (e:=⟨.ptr nx [] s,[],[⟨.box t,s,z.v⟩],[]⟩) ho (by unfold Wy; rw[hz]; rfl)) (EImp.refl _)
def zvf (P:Program) (t:TypeId) (x:KV) (zm:KZ) (nx:Nat) (K:KT):Prop:=os 31 (fun s=>chk (ZD x s) 32 (nwB (.box t) s x zm nx fun zm nx'=>K (.ptr nx [] s) zm nx' [] [])) (z5 P t)
theorem zqq {t:TypeId}{x:Operand}(ho:o.op=.box t x) (h:zvf P t (kev τ x) zm nx K):Out P B o τ lo zm nx K:=by
 obtain⟨s,h1,h2⟩:=xg h
 obtain⟨h3,h4⟩:=ze h2
 obtain⟨h5,h6⟩:=j5 h3
 exact Out.new (v:=.ptr nx [] s) h4 (zgA (e:=⟨.ptr nx [] s,[],[⟨.box t,s,(kev τ x).v⟩],[]⟩) ho (by unfold zlj; rw[h1,←zK]; simp only[h5,h6,Bool.and_self,if_true]; rfl)) (EImp.refl _)
def ldS (P:Program) (t:TypeId):Option Shape:=match z5 P t,P.underlying t with
 | some s,some _=>some s
 | _,_=>none
omit [KGl] in
theorem zg5 {t:TypeId}{s:Shape}(h:ldS P t=some s):z5 P t=some s∧∃ d,P.underlying t=some d:=by
 unfold ldS at h
 split at h
 ·rename_i h1 h2; cases h; exact⟨h1,_,h2⟩
 ·cases h
def ldP (s:Shape) (zm:KZ) (nx:Nat) (K:KT) (id:Nat) (p:List Step) (s':Shape):Prop:=oB zm id fun k _ v=>chk (nd (wg k) (nd (yF p v) (s'.beq s))) 33 (fV (jd p v) fun v=>K v zm nx [] [id])
def ldR (s:Shape) (zm:KZ) (nx:Nat) (K:KT) (_:Bool) (s':Shape) (c:KV):Prop:=chk (s'.beq s) 34 (fV c fun v=>K v zm nx [] [])
def zn7 (P:Program) (t:TypeId) (a:KV) (zm:KZ) (nx:Nat) (K:KT):Prop:=os 35 (fun s=>yz (ldP s zm nx K) (QP (ldR s zm nx K) (BadN 36) a) a) (ldS P t)
theorem zlw {t:TypeId}{x:Operand}(ho:o.op=.load t x) (h:zn7 P t (kev τ x) zm nx K):Out P B o τ lo zm nx K:=by
 obtain⟨s,h1,h2⟩:=xg h
 obtain⟨hs,d,hu⟩:=zg5 h1
 have hx:=zK τ x
 rcases xY h2 with ⟨id,p,s',hp,h3⟩ | ⟨_,h3⟩
 ·obtain⟨k,sh,v,hb,h4⟩:=xL h3
  obtain⟨h5,h6⟩:=ze h4
  rw[xC] at h6
  simp only[zd] at h5
  rw[hp] at hx
  exact Out.pure h6 (Wp (e:=⟨(jd p v).v,[],[],[id]⟩) ho (by
   unfold zam; rw[hs,hu,←hx]
   simp only[zaS,zJ hb,KBlk.b,xk,h5.1,h5.2.2,Bool.and_self,if_true,v4 p v h5.2.1]; rfl)) (EImp.refl _)
 ·rcases qq h3 with ⟨u,s',c,hp,h4⟩ | ⟨_,h4⟩
  ·obtain⟨h5,h6⟩:=ze h4
   rw[xC] at h6
   rw[hp] at hx
   exact Out.pure h6 (Wp (e:=zk c.v) ho (by
    unfold zam; rw[hs,hu,←hx]
    simp only[QR,h5,if_true]; rfl)) (EImp.refl _)
  ·exact h4.elim
def stP (lo:Nat) (x:KV) (s:Shape) (zm:KZ) (nx:Nat) (K:KT) (id:Nat) (p:List Step) (s':Shape):Prop :=
 oB zm id fun k sh v=>chk (nd (Nat.ble lo id) (nd (wg k) (nd (s'.beq s) (ZD x s)))) 37 (Jl x p v fun v=>upB id k sh v zm fun zm=>K (.tup .nl) zm nx [id] [])
def zg6 (lo:Nat) (P:Program) (t:TypeId) (a x:KV) (zm:KZ) (nx:Nat) (K:KT):Prop:=os 38 (fun s=>yz (stP lo x s zm nx K) (BadN 39) a) (z5 P t)
theorem zg7 {t:TypeId}{a x:Operand}(ho:o.op=.store t a x) (h:zg6 lo P t (kev τ a) (kev τ x) zm nx K):Out P B o τ lo zm nx K:=by
 obtain⟨s,hs,h2⟩:=xg h
 have hx:=zK τ a
 rcases xY h2 with ⟨id,p,s',hp,h3⟩ | ⟨_,h3⟩
 ·obtain⟨k,sh,v,hb,h4⟩:=xL h3
  obtain⟨h5,h6⟩:=ze h4
  simp only[zd] at h5
  obtain⟨h7,h8,h9,h10⟩:=h5
  obtain⟨h11,h12⟩:=j5 h10
  obtain⟨v',h13,h14⟩:=qQ _ _ _ _ h6
  rw[hp] at hx
  exact Out.up (v:=.tup .nl) h13 (Nat.le_of_ble_eq_true h7) (zai (e:=⟨.tup .nl,[(id,⟨k,sh,v'.v⟩)],[],[]⟩) ho (by
   unfold WA; rw[hs,←hx,←zK]
   simp only[zaS,zJ hb,KBlk.b,xk,h8,h9,h11,h12,Bool.and_self,if_true,wT,h14]; rfl)) (EImp.refl _)
 ·exact h3.elim
def zvg (x:KV) (zm:KZ) (nx:Nat) (K:KT):Prop:=yz (fun _ _ _=>K x zm nx [] []) (QP (fun _ _ _=>K x zm nx [] []) (zaQ (fun f _=>chk (Nat.blt f 2147483648) 46 (K x zm nx [] [])) (BadN 40) x) x) x
theorem zqr {x:Operand}(ho:o.op=.nilCheck x) (h:zvg (kev τ x) zm nx K):Out P B o τ lo zm nx K:=by
 have hx:=zK τ x
 rcases xY h with ⟨_,_,_,hp,h3⟩ | ⟨_,h3⟩
 ·exact Out.pure h3 (Wq (e:=zk (kev τ x).v) ho (by rw[←hx,hp]; rfl)) (EImp.refl _)
 ·rcases qq h3 with ⟨_,_,_,hp,h3⟩ | ⟨_,h3⟩
  ·exact Out.pure h3 (Wq (e:=zk (kev τ x).v) ho (by rw[←hx,hp]; rfl)) (EImp.refl _)
  ·rcases wG h3 with ⟨f,c,hp,h3⟩ | ⟨_,h3⟩
   ·obtain⟨hf,h3⟩:=ze h3
    exact Out.pure h3 (Wq (e:=zk (kev τ x).v) ho (by rw[←hx,hp,v_fn]; exact⟨hf,rfl⟩)) (EImp.refl _)
   ·exact h3.elim
def zaB (p:List Step) (s:Step):(List Step→Prop)→Prop:=@List.rec Step (fun _=>(List Step→Prop)→Prop) (fun K=>K [s]) (fun x _ ih K=>ih fun r=>K (x::r)) p
omit [KGl] in
theorem wz (s:Step):∀(p:List Step) (K:List Step→Prop),zaB p s K=K (p++[s])
 | [],K=>rfl
 | x::p,K=>wz s p fun r=>K (x::r)
def fdS (P:Program) (st:TypeId) (f:Nat):Option (Shape×Shape):=match P.underlying st with
 | some (.struct fs)=>match fs[f]? with
  | some fd=>match P.info? fd.type,(shp P 12 st).fld f with
   | some i,some (d,s')=>if i.size≠0∧d=fd.offset then some (shp P 12 st,s') else none
   | _,_=>none
  | none=>none
 | _=>none
def fdP (f:Nat) (zm:KZ) (nx:Nat) (K:KT) (s s2:Shape) (id:Nat) (p:List Step) (s':Shape):Prop:=chk (s'.beq s) 41 (zaB p (.fld f) fun p=>K (.ptr id p s2) zm nx [] [])
def fdR (f:Nat) (zm:KZ) (nx:Nat) (K:KT) (s s2:Shape) (u:Bool) (s':Shape) (c:KV):Prop:=chk (s'.beq s) 42 (fV (zic f c) fun c=>K (.ref u s2 c) zm nx [] [])
def zg8 (P:Program) (st:TypeId) (x:KV) (f:Nat) (zm:KZ) (nx:Nat) (K:KT):Prop :=
 os 43 (pr fun s s2=>yz (fdP f zm nx K s s2) (QP (fdR f zm nx K s s2) (BadN 44) x) x) (fdS P st f)
theorem zg9 {st:TypeId}{x:Operand}{f:Nat}(ho:o.op=.fieldAddr st x f) (h:zg8 P st (kev τ x) f zm nx K):Out P B o τ lo zm nx K:=by
 obtain⟨⟨s,s2⟩,h1,h2⟩:=xg h
 have hx:=zK τ x
 have key:∃ fs fd i d,P.underlying st=some (.struct fs)∧fs[f]?=some fd∧P.info? fd.type=some i∧i.size≠0∧s.fld f=some (d,s2)∧d=fd.offset:=by
  unfold fdS at h1
  split at h1
  ·rename_i fs hu
   split at h1
   ·rename_i fd hf
    split at h1
    ·rename_i i d s' hi hd
     split at h1
     ·rename_i hc
      simp only[Option.some.injEq,Prod.mk.injEq] at h1
      obtain⟨rfl,rfl⟩:=h1
      exact⟨fs,fd,i,d,hu,hf,hi,hc.1,hd,hc.2⟩
     ·cases h1
    ·cases h1
   ·cases h1
  ·cases h1
 obtain⟨fs,fd,i,d,q1,q2,q3,q4,q5,q6⟩:=key
 rcases xY h2 with ⟨id,p,s',hp,h3⟩ | ⟨_,h3⟩
 ·obtain⟨h4,h5⟩:=ze h3
  rw[wz] at h5
  obtain rfl:=Shape.eq_of_beq h4
  rw[hp] at hx
  exact Out.pure h5 (VK (e:=zk (.ptr id (p++[.fld f]) s2)) ho (by
   unfold VO; rw[q1,←hx]
   simp only[q2,q3,q4,if_false,zaS,q5,q6,if_true]; rfl)) (EImp.refl _)
 ·rcases qq h3 with ⟨u,s',c,hp,h3⟩ | ⟨_,h3⟩
  ·obtain⟨h4,h5⟩:=ze h3
   rw[xC] at h5
   obtain rfl:=Shape.eq_of_beq h4
   rw[hp] at hx
   exact Out.pure h5 (VK (e:=zk (.ref u s2 (zic f c).v)) ho (by
    unfold VO; rw[q1,←hx]
    simp only[q2,q3,q4,if_false,QR,q5,q6,if_true,W6]; rfl)) (EImp.refl _)
  ·exact h3.elim
inductive IxS where
 | arr (n z:Nat)
 | sli (z:Nat)
 | bad
def ixS (P:Program) (t:TypeId):IxS:=match P.underlying t with
 | some (.array n el)=>match P.info? el with
  | some i=>.arr n i.size
  | none=>.bad
 | some (.slice el)=>match P.info? el with
  | some i=>.sli i.size
  | none=>.bad
 | _=>.bad
def zvh (f:Nat→Nat→Prop) (g:Nat→Prop) (x:IxS):Prop:=@IxS.rec (fun _=>Prop) f g (BadN 45) x
omit [KGl] in
theorem zha {f:Nat→Nat→Prop}{g:Nat→Prop}{t:TypeId}(h:zvh f g (ixS P t)) :
  (∃ n el i,P.underlying t=some (.array n el)∧P.info? el=some i∧f n i.size)∨(∃ el i,P.underlying t=some (.slice el)∧P.info? el=some i∧g i.size):=by
 unfold ixS at h
 split at h
 ·rename_i n el hu
  split at h
  ·rename_i i hi; exact .inl ⟨n,el,i,hu,hi,h⟩
  ·exact (show BadN 45 from h).elim
 ·rename_i el hu
  split at h
  ·rename_i i hi; exact .inr ⟨el,i,hu,hi,h⟩
  ·exact (show BadN 45 from h).elim
 ·exact (show BadN 45 from h).elim
def vP (j:Int):Nat:=@Int.rec (fun _=>Nat) (fun n=>n) (fun _=>0) j
omit [KGl] in
theorem xo (j:Int):vP j=j.toNat:=by cases j<;>rfl
def shA (s:Shape) (f:Nat→Shape→Prop) (z:Prop):Prop:=@Shape.rec (fun _=>Prop) z z (fun _ _ _ _=>z) (fun n e _=>f n e) s
omit [KGl] in
theorem Vd {s:Shape}{f:Nat→Shape→Prop}{n:Nat}(h:shA s f (BadN n)):∃ m e,s=.arr m e∧f m e:=by
 cases s with
 | arr m e=>exact⟨m,e,rfl,h⟩
 | sc=>exact (show BadN n from h).elim
 | nl=>exact (show BadN n from h).elim
 | cons a b=>exact (show BadN n from h).elim
def ixP (j:Int) (n z:Nat) (zm:KZ) (nx:Nat) (K:KT) (id:Nat) (p:List Step) (s:Shape):Prop :=
 shA s (fun n' e=>chk (nd (Nat.beq n' n) (Nat.beq z e.size)) 46 (cnd (ixB j n) (fN (vP j) fun i=>zaB p (.idx i) fun p=>K (.ptr id p e) zm nx [] []))) (BadN 47)
def ixR (j:Int) (n z:Nat) (zm:KZ) (nx:Nat) (K:KT) (u:Bool) (s:Shape) (c:KV):Prop :=
 shA s (fun n' e=>chk (nd (Nat.beq n' n) (Nat.beq z e.size)) 48 (cnd (ixB j n) (fV (zQ (vP j) c) fun c=>K (.ref u e c) zm nx [] []))) (BadN 49)
def ixW (j:Int) (z:Nat) (zm:KZ) (nx:Nat) (K:KT) (id:Nat) (e:Shape) (len:Nat):Prop :=
 oB zm id fun k _ _=>chk (nd (wg k) (Nat.beq z e.size)) 50 (cnd (ixB j len) (fN (vP j) fun i=>K (.ptr id [.idx i] e) zm nx [] [id]))
def ixL (j:Int) (z:Nat) (zm:KZ) (nx:Nat) (K:KT) (id:Nat) (p:List Step) (e:Shape) (off len:Nat) (_:Option Nat):Prop :=
 chk (Nat.beq z e.size) 51 (cnd (ixB j len) (fN (Nat.add off (vP j)) fun i=>zaB p (.idx i) fun p=>K (.ptr id p e) zm nx [] []))
def ixO (j:Int) (z:Nat) (zm:KZ) (nx:Nat) (K:KT) (u _:Bool) (e:Shape) (off len:Nat) (c:KV):Prop :=
 chk (Nat.beq z e.size) 52 (cnd (ixB j len) (fV (zQ (Nat.add off (vP j)) c) fun c=>K (.ref u e c) zm nx [] []))
def zhb (P:Program) (t:TypeId) (x ix:KV) (zm:KZ) (nx:Nat) (K:KT):Prop :=
 z8 (fun _ j=>zvh (fun n z=>yz (ixP j n z zm nx K) (QP (ixR j n z zm nx K) (BadN 53) x) x) (fun z=>Jg (ixL j z zm nx K) (yA (ixW j z zm nx K) (Xu (ixO j z zm nx K) (BadN 54) x) x) x) (ixS P t)) (BadN 55) ix
omit [KGl] in
theorem zI {a b:Nat}(h:Nat.beq a b=true):a=b:=Nat.eq_of_beq_eq_true h
omit [KGl] in
theorem qf {c:Bool}{e:Eff}(h:c=true):(RS.tst c e).is e:=⟨h,rfl⟩
theorem zhc {t:TypeId}{x ix:Operand}(ho:o.op=.indexAddr t x ix) (h:zhb P t (kev τ x) (kev τ ix) zm nx K):Out P B o τ lo zm nx K:=by
 have hx:=zK τ x
 have hi:=zK τ ix
 rcases zz h with ⟨k,j,hj,h1⟩ | ⟨_,h1⟩
 ·rw[hj] at hi
  rcases zha h1 with ⟨n,el,i,hu,hif,h2⟩ | ⟨el,i,hu,hif,h2⟩
  ·rcases xY h2 with ⟨id,p,s,hp,h3⟩ | ⟨_,h3⟩
   ·obtain⟨n',e,rfl,h4⟩:=Vd h3
    obtain⟨h5,h6⟩:=ze h4
    obtain⟨h7,h8⟩:=za.1 h6
    rw[zU,wz] at h8
    rw[zd] at h5
    rw[hp] at hx
    exact Out.pure h8 (qn (e:=zk (.ptr id (p++[.idx j.toNat]) e)) ho (by
     unfold wv; rw[←hx,←hi]
     simp only[yC,hu,hif,zaS,zI h5.1,zI h5.2,and_self,if_true]
     exact qf h7)) (by rw[xo]; exact EImp.refl _)
   ·rcases qq h3 with ⟨u,s,c,hp,h3⟩ | ⟨_,h3⟩
    ·obtain⟨n',e,rfl,h4⟩:=Vd h3
     obtain⟨h5,h6⟩:=ze h4
     obtain⟨h7,h8⟩:=za.1 h6
     rw[xC] at h8
     rw[zd] at h5
     rw[hp] at hx
     exact Out.pure h8 (qn (e:=zk (.ref u e (c.v.step (.idx j.toNat)))) ho (by
      unfold wv; rw[←hx,←hi]
      simp only[yC,hu,hif,QR,zI h5.1,zI h5.2,and_self,if_true]
      exact qf h7)) (by rw[xo,QR,xU]; exact EImp.refl _)
    ·exact h3.elim
  ·rcases ve h2 with ⟨id,p,e,off,len,cap,hp,h3⟩ | ⟨_,h3⟩
   ·obtain⟨h5,h6⟩:=ze h3
    obtain⟨h7,h8⟩:=za.1 h6
    rw[zU,wz] at h8
    rw[hp] at hx
    exact Out.pure h8 (qn (e:=zk (.ptr id (p++[.idx (off + j.toNat)]) e)) ho (by
     unfold wv; rw[←hx,←hi]
     simp only[yC,hu,hif,zl6,zI h5,if_true]
     exact qf h7)) (by rw[xo]; exact EImp.refl _)
   ·rcases vu h3 with ⟨id,e,len,hp,h3⟩ | ⟨_,h3⟩
    ·obtain⟨k',sh,v,hb,h4⟩:=xL h3
     obtain⟨h5,h6⟩:=ze h4
     obtain⟨h7,h8⟩:=za.1 h6
     rw[zU] at h8
     rw[zd] at h5
     rw[hp] at hx
     exact Out.pure h8 (qn (e:=⟨.ptr id [.idx j.toNat] e,[],[],[id]⟩) ho (by
      unfold wv; rw[←hx,←hi]
      simp only[yC,hu,hif,zh9,zJ hb,KBlk.b,xk,h5.1,zI h5.2,and_self,if_true]
      exact qf h7)) (by rw[xo]; exact EImp.refl _)
    ·rcases xJ h3 with ⟨u,clip,e,off,len,c,hp,h3⟩ | ⟨_,h3⟩
     ·obtain⟨h5,h6⟩:=ze h3
      obtain⟨h7,h8⟩:=za.1 h6
      rw[xC] at h8
      rw[hp] at hx
      exact Out.pure h8 (qn (e:=zk (.ref u e (c.v.step (.idx (off + j.toNat))))) ho (by
       unfold wv; rw[←hx,←hi]
       simp only[yC,hu,hif,Xx,zI h5,if_true]
       exact qf h7)) (by rw[xo,QR,xU]; exact EImp.refl _)
     ·exact h3.elim
 ·exact h1.elim
end
end
end Go.K
