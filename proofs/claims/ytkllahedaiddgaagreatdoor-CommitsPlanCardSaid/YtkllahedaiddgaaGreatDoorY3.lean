/- Steps of code, from equations of runs. No condition. -/
import Derived.Test.YtkllahedaiddgaaGreatDoorB16
set_option linter.unusedSimpArgs false
set_option linter.unusedVariables false
namespace Go.Y
open Go.Ab Go.RowKit
noncomputable section
variable [Gl]
inductive BadV (o:Op):Prop
inductive BadN (n:Nat):Prop
omit [Gl] in
theorem BadV.elim {o:Op}{p:Prop}(h:BadV o):p:=(by cases h)
omit [Gl] in
theorem BadN.elim {n:Nat}{p:Prop}(h:BadN n):p:=(by cases h)
def zfZ (v:V) (K:V→Prop):Prop :=
 @V.rec (fun _=>Prop) (fun k n=>K (.int k n)) (fun b=>K (.bool b)) (fun s=>K (.str s)) (K .nl) (fun h t _ _=>K (.cons h t)) (fun n f _=>K (.arr n f)) (fun id p s=>K (.ptr id p s)) (fun id e n=>K (.row id e n))
  (fun id p e off len cap=>K (.sl id p e off len cap)) (fun w s c _=>K (.ref w s c)) (K .nilp) (K .nils) (K .nilf) (fun w clip s len f _=>K (.ro w clip s len f)) (fun f c _=>K (.fn f c)) (fun l _=>K (.tup l)) (K .unk) (fun id=>K (.yld id)) v
def zns (k:Kind) (K:Kind→Prop):Prop:=@Kind.rec (fun _=>Prop) (fun t=>K (.box t)) (fun e=>K (.row e)) (K .dead) (fun m ps a b=>K (.lp m ps a b)) (K .mp) k
def zf0 (b:Blk) (K:Option Blk→Prop):Prop:=@Blk.rec (fun _=>Prop) (fun k sh v=>zns k fun k=>zfZ v fun v=>K (some ⟨k,sh,v⟩)) b
def zbu (g:V→V):V→V
 | .cons h t=>.cons (zbu g h) (zbu g t)
 | .arr n f=>.arr n fun i=>zbu g (f i)
 | .fn f c=>.fn f (zbu g c)
 | .tup l=>.tup (zbu g l)
 | v=>g v
def zF8 (v:V):V:=match v with
 | .ptr .. | .row .. | .sl .. | .yld _=>.unk
 | v=>v
def qm (cap:Option Nat) (len:Nat):Bool:=match cap with
 | some k=>Nat.beq k len
 | none=>false
def zzU (m:Mem) (g:V→V) (v:V):V:=match v with
 | .ptr id p s=>match m id with
  | some blk=>if blk.alive then .ref false s (g (blk.v.path p)) else .unk
  | none=>.unk
 | .row id e n=>match m id with
  | some blk=>if blk.alive then match blk.v with
   | .arr _ f=>.ro false false e n fun i=>g (f i)
   | _=>.unk
   else .unk
  | none=>.unk
 | .sl id p e off len cap=>match m id with
  | some blk=>if blk.alive then match blk.v.path p with
   | .arr _ f=>.ro false (qm cap len) e len fun i=>g (f (off + i))
   | _=>.unk
   else .unk
  | none=>.unk
 | .yld _=>.unk
 | v=>v
def frz (m:Mem):Nat→V→V
 | 0=>zbu zF8
 | k + 1=>zbu (zzU m (frz m k))
def Wi (m:Mem):V→Option (Bool×V×List Nat)
 | .row id e n=>match m id with
  | some blk=>if blk.alive then match blk.v with
   | .arr _ f=>some ((List.range n).all fun i=>vx (f i),.ro false false e n f,[id])
   | _=>none
   else none
  | none=>none
 | .sl id p e off len cap=>match m id with
  | some blk=>if blk.alive then match blk.v.path p with
   | .arr _ f=>some ((List.range len).all fun i=>vx (f (off + i)),.ro false (qm cap len) e len (fun i=>f (off + i)),[id])
   | _=>none
   else none
  | none=>none
 | .ptr id p s=>match m id with
  | some blk=>if blk.alive&&vx (blk.v.path p) then some (true,.ref false s (blk.v.path p),[id]) else none
  | none=>none
 | .cons h t=>match Wi m h,Wi m t with
  | some (p,h',r),some (q,t',r')=>some (p&&q,.cons h' t',r++r')
  | _,_=>none
 | .tup l=>match Wi m l with
  | some (p,l',r)=>some (p,.tup l',r)
  | none=>none
 | v=>if vx v then some (true,v,[]) else none
abbrev KT:=V→Zm→Nat→List Nat→List Nat→Prop
abbrev CL:=V→List V→Zm→Nat→KT→Prop
def upK (l:List (Nat×Blk)):Zm→(Zm→Prop)→Prop:=@List.rec (Nat×Blk) (fun _=>Zm→(Zm→Prop)→Prop) (fun zm K=>K zm) (fun x _ ih zm K=>ih zm fun zm=>zf0 x.2 fun b=>xO b (enc x.1) zm K) l
def nwK (l:List Blk):Zm→Nat→(Zm→Nat→Prop)→Prop:=@List.rec Blk (fun _=>Zm→Nat→(Zm→Nat→Prop)→Prop) (fun zm nx K=>K zm nx) (fun b _ ih zm nx K=>zf0 b fun b=>xO b (enc nx) zm fun zm=>zz (Nat.succ nx) fun nx=>ih zm nx K) l
def apK (e:Eff) (zm:Zm) (nx:Nat) (K:KT):Prop:=upK e.up zm fun zm=>nwK e.nw zm nx fun zm nx=>K e.v zm nx (e.up.map (·.1)) e.rd
def rsK (o:Op) (r:RS) (zm:Zm) (nx:Nat) (K:KT):Prop:=@RS.rec (fun _=>Prop) (BadV o) (fun e=>apK e zm nx K) (fun c e=>cnd c (apK e zm nx K)) (fun p e=>p∧apK e zm nx K) r
def ev (G:Nat→V) (tm:Tm):Operand→V:=opv G (tv tm)
def yop (cl:CL) (P:Program) (G:Nat→V) (tm:Tm) (o:Op) (zm:Zm) (nx:Nat) (K:KT):Prop :=
 match o with
 | .call ⟨.value f,args,_⟩=>cl (ev G tm f) (args.toList.map (ev G tm)) zm nx K
 | o=>rsK o (zz5 P o (ev G tm) (gm zm) nx) zm nx K
abbrev K3:=Exit→Tm→Zm→Nat→Prop
abbrev RUN:=Code→Tm→Zm→Nat→K3→Prop
def znt (d:Option Tmp) (v:V) (tm:Tm) (f:Tm→Prop):Prop:=@Option.rec Tmp (fun _=>Prop) (f tm) (fun d=>zfZ v fun v=>xO v (enc d) tm f) d
def two (b:Bool) (t:Nat) (tm:Tm) (f:Bool→Tm→Prop):Prop:=alt b (xO (.bool true) (enc t) tm (f true)) (xO (.bool false) (enc t) tm (f false))
def zF9 (v:V) (want:Bool) (d:Nat) (tm:Tm) (y n:Tm→Prop):Prop:=match v with
 | .bool b=>two b d tm fun b tm=>@Bool.rec (fun _=>Prop) (@Bool.rec (fun _=>Prop) (y tm) (n tm) b) (@Bool.rec (fun _=>Prop) (n tm) (y tm) b) want
 | .tup .nl=>n tm
 | _=>(BadN 1)
def zzV (G:Nat→V) (tm:Tm) (c:Operand) (f:Bool→Tm→Prop):Prop:=match c with
 | .tmp t=>match tv tm t with
  | .bool b=>two b t tm f
  | _=>(BadN 2)
 | c=>match ev G tm c with
  | .bool b=>alt b (f true tm) (f false tm)
  | _=>(BadN 3)
def Y0 (ops:List Oper) (j:Nat):Option Tmp:=(ops[j]?).bind (·.dst)
def zzW (ops:List Oper) (g:Option (Nat×Bool)) (tm:Tm) (y n:Tm→Prop):Prop:=match g with
 | none=>y tm
 | some (j,want)=>match Y0 ops j with
  | none=>(BadN 4)
  | some d=>zF9 (tv tm d) want d tm y n
def zGa (cl:CL) (P:Program) (G:Nat→V) (ops:List Oper) (o:Oper) (tm:Tm) (zm:Zm) (nx:Nat) (K:Tm→Zm→Nat→Prop):Prop :=
 zzW ops o.guard tm (fun tm=>yop cl P G tm o.op zm nx fun v zm nx _ _=>znt o.dst v tm fun tm=>K tm zm nx) (fun tm=>znt o.dst (.tup .nl) tm fun tm=>K tm zm nx)
def zGb (cl:CL) (P:Program) (G:Nat→V) (ops l:List Oper):(tm:Tm)→(zm:Zm)→Nat→(Tm→Zm→Nat→Prop)→Prop :=
 @List.rec Oper (fun _=>Tm→Zm→Nat→(Tm→Zm→Nat→Prop)→Prop) (fun tm zm nx K=>K tm zm nx) (fun o _ ih tm zm nx K=>zGa cl P G ops o tm zm nx fun tm zm nx=>ih tm zm nx K) l
def rvO (P:Program) (tm:Tm) (zm:Zm) (r:ResultVar):Option V:=match r with
 | .tmp t=>some (tv tm t)
 | .cell a t=>match xj P t,P.underlying t with
  | some s,some _=>match tv tm a with
   | .ptr id p s'=>match gm zm id with
    | some blk=>if blk.alive&&s'.beq s then some (blk.v.path p) else none
    | none=>none
   | _=>none
  | _,_=>none
def rvL (P:Program) (tm:Tm) (zm:Zm):List ResultVar→Option V
 | []=>some .nl
 | r::l=>match rvO P tm zm r,rvL P tm zm l with
  | some v,some w=>some (.cons v w)
  | _,_=>none
def rvA (P:Program) (tm:Tm) (zm:Zm) (l:List ResultVar):Option V:=match l with
 | [r]=>rvO P tm zm r
 | l=>(rvL P tm zm l).map .tup
def zrR (v:Option V) (K:V→Prop):Prop:=match v with
 | some v=>K v
 | none=>(BadN 5)
def zaa (P:Program) (rs:List ResultVar) (K:V→Zm→Nat→Prop) (e:Exit) (tm:Tm) (zm:Zm) (nx:Nat):Prop:=match e with
 | .normal=>zrR (rvA P tm zm rs) fun v=>K v zm nx
 | .ret=>zrR (rvA P tm zm rs) fun v=>K v zm nx
 | _=>(BadN 6)
def zzX (l:List V):Nat→Tm→(Tm→Prop)→Prop:=@List.rec V (fun _=>Nat→Tm→(Tm→Prop)→Prop) (fun _ t K=>K t) (fun x _ ih i t K=>xO x (enc i) t fun t=>ih (Nat.succ i) t K) l
abbrev yP:=FuncId→Option CSpec
def XJ (run:RUN) (P:Program) (fid:FuncId) (l:List V) (zm:Zm) (nx:Nat) (K:V→Zm→Nat→Prop):Prop :=
 match P.funcs[fid]? with
 | some fn=>match fn.body with
  | some c=>zzX l 0 .e fun tm=>run c tm zm nx (zaa P fn.results.toList K)
  | none=>(BadN 7)
 | none=>(BadN 8)
def zGc (c:CSpec) (zm:Zm) (nx:Nat) (args:V) (K:KT):Prop :=
 @Bool.rec (fun _=>Prop) (cnd (vx args&&c.pre (unL args)) (K (borrow (c.res (unL args))) zm nx [] [])) (cnd (c.pre (unL (frz (gm zm) 12 args))) (K (c.res (unL (frz (gm zm) 12 args))) zm nx [] [])) c.fresh
def Vv (c:CSpec) (l:V):V:=@Bool.rec (fun _=>V) (borrow (c.res (unL l))) (c.res (unL l)) c.fresh
def zGd (c:CSpec) (zm:Zm) (nx:Nat) (args:V) (K:KT):Prop:=match Wi (gm zm) args with
 | some (p,l,rd)=>cnd ((c.fresh||rd.isEmpty)&&(p&&c.pre (unL l))) (K (Vv c l) zm nx [] rd)
 | none=>(BadN 9)
def zrS (con:CSpec→Zm→Nat→V→KT→Prop) (run:RUN) (P:Program) (ct:yP) (zr:Zm) (f:V) (l:List V) (zm:Zm) (nx:Nat) (K:KT):Prop:=match f with
 | .fn fid caps=>match ct fid with
  | some c=>cnd (Nat.blt fid 1073741824) (con c zm nx (zzT l caps) K)
  | none=>cnd (Nat.blt fid 1073741824) (XJ run P fid (l++unL caps) zr nx fun v zm nx=>K v zm nx [] [])
 | _=>(BadN 10)
def zzY (run:RUN) (P:Program) (ct:yP):CL:=fun f l zm nx K=>zrS zGc run P ct zm f l zm nx K
def zzZ (run:RUN) (P:Program) (ct:yP):CL:=fun f l zm nx K=>zrS zGd run P ct .e f l zm nx fun v z nx _ rd=>K v zm nx [] rd
def zz0 (run:RUN) (b:Code) (K:K3) (e:Exit):Tm→Zm→Nat→Prop:=match e with
 | .normal=>fun tm zm nx=>run b tm zm nx K
 | e=>K e
def ztV (id:Nat) (K:K3) (e:Exit):Tm→Zm→Nat→Prop:=match e with
 | .exit i=>@Bool.rec (fun _=>Tm→Zm→Nat→Prop) (K (.exit i)) (K .normal) (Nat.beq i id)
 | e=>K e
def ztW (K:K3) (e:Exit):Tm→Zm→Nat→Prop:=match e with
 | .goto _=>fun _ _ _=>(BadN 11)
 | e=>K e
inductive ZTE where
 | mk (o:Oper) (lo hi:Nat) (up rd:List Nat)
def ZTE.o:ZTE→Oper | .mk o _ _ _ _=>o
def ZTE.lo:ZTE→Nat | .mk _ l _ _ _=>l
def ZTE.hi:ZTE→Nat | .mk _ _ h _ _=>h
def ZTE.up:ZTE→List Nat | .mk _ _ _ u _=>u
def ZTE.rd:ZTE→List Nat | .mk _ _ _ _ r=>r
def zf1 (te:ZTE) (id:Nat):Bool:=Nat.ble te.lo id&&Nat.ble (Nat.succ id) te.hi
def zin (te:ZTE) (id:Nat):Bool:=te.up.any (fun j=>Nat.beq j id)||zf1 te id
def zrd (te:ZTE) (id:Nat):Bool:=te.rd.any fun j=>Nat.beq j id
def znu (te te':ZTE):Bool :=
 te'.up.any (fun id=>zin te id||zrd te id)||te'.rd.any (zin te)||te.up.any (zf1 te')||te.rd.any (zf1 te')||(Nat.ble (Nat.succ te.lo) te'.hi&&Nat.ble (Nat.succ te'.lo) te.hi)
def xo (o:Oper) (k:Nat):Bool:=o.after.any fun e=>Region.binds .any e&&e.on==k
def Wj (o o':Oper) (ops:Array Oper):Bool:=zfV ⟨o,Zn,0,false⟩ ⟨o',Zn,0,false⟩ ops
def zrT (ops:Array Oper):List ZTE→Bool
 | []=>true
 | te::r=>zrT ops r&&(te.o.after.all fun e=>!(Region.binds .any e)||decide (e.on < r.length))&&against te r
where against (te:ZTE):List ZTE→Bool
 | []=>true
 | te'::r'=>(xo te.o r'.length||!(Wj te.o te'.o ops||znu te te'))&&against te r'
def zGe (cl:CL) (P:Program) (G:Nat→V) (ops:List Oper) (o:Oper) (tm:Tm) (zm:Zm) (nx:Nat) (K:Tm→Zm→Nat→ZTE→Prop):Prop :=
 zzW ops o.guard tm (fun tm=>yop cl P G tm o.op zm nx fun v zm nx' up rd=>znt o.dst v tm fun tm=>K tm zm nx' (.mk o nx nx' up rd))
  (fun tm=>znt o.dst (.tup .nl) tm fun tm=>K tm zm nx (.mk o nx nx [] []))
def zz1 (cl:CL) (P:Program) (G:Nat→V) (ops l:List Oper):(tm:Tm)→(zm:Zm)→Nat→List ZTE→(Tm→Zm→Nat→List ZTE→Prop)→Prop :=
 @List.rec Oper (fun _=>Tm→Zm→Nat→List ZTE→(Tm→Zm→Nat→List ZTE→Prop)→Prop) (fun tm zm nx tr K=>K tm zm nx tr) (fun o _ ih tm zm nx tr K=>zGe cl P G ops o tm zm nx fun tm zm nx te=>ih tm zm nx (te::tr) K) l
def zGf (run:RUN) (P:Program) (G:Nat→V) (ct:yP) (ops:List Oper) (tm:Tm) (zm:Zm) (nx:Nat) (K:K3):Prop:=zGb (zzY run P ct) P G ops ops tm zm nx (K .normal)
def zGg (run:RUN) (P:Program) (G:Nat→V) (ct:yP) (ops:Array Oper) (tm:Tm) (zm:Zm) (nx:Nat) (K:K3):Prop :=
 zz1 (zzZ run P ct) P G ops.toList ops.toList tm zm nx [] fun tm zm nx tr=>cnd (zrT ops tr) (K .normal tm zm nx)
def step (P:Program) (G:Nat→V) (ct:yP) (u:Bool) (run:RUN) (c:Code) (tm:Tm) (zm:Zm) (nx:Nat) (K:K3):Prop:=match c with
 | .skip=>K .normal tm zm nx
 | .label _=>K .normal tm zm nx
 | .region _ ops draw=>@Bool.rec (fun _=>Prop) (zGf run P G ct ops.toList tm zm nx K) (zGg run P G ct ops tm zm nx K) draw
 | .seq a b=>run a tm zm nx (zz0 run b K)
 | .cond c x y=>zzV G tm c fun b tm=>@Bool.rec (fun _=>Prop) (run y tm zm nx K) (run x tm zm nx K) b
 | .block id b=>run b tm zm nx (ztV id K)
 | .loop b=>@Bool.rec (fun _=>Prop) (BadN 12) (run b tm zm nx (zz0 run (.loop b) K)) u
 | .exit i=>K (.exit i) tm zm nx
 | .scope b=>run b tm zm nx (ztW K)
 | .ret=>K .ret tm zm nx
 | _=>(BadN 13)
def run (P:Program) (G:Nat→V) (ct:yP) (u:Bool) (fuel:Nat):RUN :=
 @Nat.rec (fun _=>RUN) (fun _ _ _ _ _=>(BadN 14)) (fun _ run c tm zm nx K=>step P G ct u run c tm zm nx K) fuel
end
end Go.Y
namespace Go.Y
open Go.Ab Go.RowKit
noncomputable section
variable [Gl]
omit [Gl] in
theorem xx {C C':Ctx}{v:V}{m:Ab.M}(hv:∀ l,m=.list l→False) (h:(∃ x:Value,x.oneCell'=true∧m.leaf x)):R C' .unk m:=by
 obtain⟨x,h1,h2⟩:=h
 cases m with
 | cel s g off=>obtain⟨rfl,h3⟩:=h2; exact⟨rfl,x,h3,h1⟩
 | val v=>trivial
 | list l=>exact (hv l rfl).elim
omit [Gl] in
theorem zad {cap:Option Nat}{len:Nat}(h:qm cap len=true):cap=some len:=by
 unfold qm at h
 split at h
 ·rw[Nat.eq_of_beq_eq_true h]
 ·cases h
section
variable {B:Nat}{C:Ctx}{M:Mem}
theorem R.row_ro (hs:SR B C M) {id n:Nat}{e:Shape}{blk:Blk}{n1:Nat}{f:Nat→V}{g:V→V}{md:Ab.M}(hM:M id=some blk) (ha:blk.alive=true) (hv:blk.v=.arr n1 f)
  (hg:∀ i,i < n→∀ md,R C (f i) md→R (C.opened B) (g (f i)) md) (hr:R C (.row id e n) md):R (C.opened B) (.ro false false e n fun i=>g (f i)) md:=by
 obtain⟨hal,⟨a,c,h1⟩,h2,h3⟩:=hr
 have hbr:=hs.mem id blk hM
 unfold BR at hbr; unfold Blk.alive at ha
 cases hkd:blk.k<;>simp only[hkd] at hbr ha
 ·obtain⟨g,cur,e',h4,_⟩:=hbr; rw[h1] at h4; cases h4
 ·obtain⟨n2,s2,cells,h4,h5,h6,h7⟩:=hbr
  rw[h4,h5] at h2
  simp only[Shape.arr.injEq] at h2
  obtain⟨rfl,rfl⟩:=h2
  refine⟨a,c,by rw[←h1]; exact h3,?_,(by intro hc; cases hc),?_⟩
  ·rcases h6.2 with ⟨h8,h9⟩ | ⟨g,cap,cur,hv',hg,hh,hnc,_⟩
   ·rw[h1] at h8; cases h8; omega
   ·rw[h1] at hv'; cases hv'; exact hnc
  ·rcases h6.2 with ⟨h8,h9⟩ | ⟨q,cap,cur,hv',hq,hh,hnc,_,hcs,htake⟩
   ·exact .inl h9
   ·right
    rw[h1] at hv'
    simp only[Value.slice.injEq] at hv'
    obtain⟨rfl,_,rfl⟩:=hv'
    refine⟨q,0,rfl,.inr ⟨hq,(Array.getElem?_eq_some_iff.1 hh).1⟩,fun i hi=>?_⟩
    have hb':xF (C.sv id)=some q:=by rw[h1]; rfl
    have hpa:Shape.path [.idx i] (C.shp id)=some (0 + i * s2.size,s2):=by rw[h4,h5]; simp [Shape.path,Shape.step,hi]
    obtain⟨h10,_⟩:=BR.at (hs.mem id blk hM) (by unfold Blk.alive; rw[hkd]) hb' hpa
    rw[hv] at h10
    have h11:R C (f i) (.cel s2 (cg C.w q) (0 + i * s2.size)):=by simpa [V.path,V.step] using h10
    exact hg i hi _ h11
 ·simp at ha
 ·simp at ha
 ·simp at ha
theorem R.sl_ro (hs:SR B C M) {id off len:Nat}{p:List Step}{cap:Option Nat}{e:Shape}{blk:Blk}{n1:Nat}{f:Nat→V}{g:V→V}{md:Ab.M}(hM:M id=some blk) (ha:blk.alive=true) (hv:blk.v.path p=.arr n1 f)
  (hg:∀ i,i < len→∀ md,R C (f (off + i)) md→R (C.opened B) (g (f (off + i))) md) (hr:R C (.sl id p e off len cap) md):R (C.opened B) (.ro false (qm cap len) e len fun i=>g (f (off + i))) md:=by
 obtain⟨hal,ad,c,o1,n2,h3,h4,h5,h2,h8,h6⟩:=hr
 refine⟨ad,c,h3,h4,(fun hc=>h5 _ (zad hc)),h6.imp (fun h=>by omega) ?_⟩
 rintro⟨b,h1,h6⟩
 obtain⟨h7,_⟩:=BR.at (hs.mem id blk hM) ha h1 h2
 rw[hv] at h7
 obtain⟨e',q1,h9⟩:=h7
 simp only[Shape.arr.injEq] at q1
 obtain⟨rfl,rfl⟩:=q1
 refine⟨b,o1 + off * e.size,h6,.inr (hs.lt hM (Blk.lv ha) (vT h1)),fun i hi=>?_⟩
 have h10:R C (f (off + i)) (.cel e (cg C.w b) (o1 + off * e.size + i * e.size)):=by rw[Nat.add_assoc,←Nat.add_mul]; exact h9 (off + i) (by omega)
 exact hg i hi _ h10
theorem R.ptr_ref (hs:SR B C M) {id:Nat}{p:List Step}{s:Shape}{blk:Blk}{g:V→V}{md:Ab.M}(hM:M id=some blk) (ha:blk.alive=true)
  (hg:∀ md,R C (blk.v.path p) md→R (C.opened B) (g (blk.v.path p)) md) (hr:R C (.ptr id p s) md):R (C.opened B) (.ref false s (g (blk.v.path p))) md:=by
 obtain⟨hal,b,off,h1,h2,h3⟩:=hr
 obtain⟨h7,_⟩:=BR.at (hs.mem id blk hM) ha h1 h2
 have hlt:=hs.lt hM (Blk.lv ha) (vT h1)
 exact⟨b,off,h3,.inr hlt,hg _ h7⟩
end
end
end Go.Y
namespace Go.Y
open Go.Ab Go.RowKit
noncomputable section
variable [Gl]
structure YR (B H:Nat) (C:Ctx) (M:Mem) (zm:Zm) (nx:Nat):Prop where
 sr:SR B C M
 sub:Sub (gm zm) M
 al:∀ id,nx≤id→id < H→¬ C.al id
structure YC (B H:Nat) (C:Ctx) (M:Mem) (zm:Zm) (nx:Nat) (C':Ctx) (M':Mem) (zm':Zm) (nx':Nat):Prop where
 kp:Kp B C C'
 al:∀ id,C'.al id→C.al id∨(nx≤id∧id < nx')
 fr:∀ id,(id < nx∨H≤id)→gm zm id=none→M' id=M id∧gm zm' id=none
def KB (zm:Zm) (nx:Nat):Prop:=∀ id,nx≤id→gm zm id=none
omit [Gl] in
theorem qD {id:Nat}{b:Blk}:∀ {l:List (Nat×Blk)},l.lookup id=some b→∃ x∈l,x.1=id
 | [],h=>by cases h
 | x::l,h=>by
  simp only[List.lookup] at h
  cases hx:id==x.1 with
  | true=>exact⟨x,by simp,(by simpa using hx:id=x.1).symm⟩
  | false =>
   rw[hx] at h
   obtain⟨y,hy,e⟩:=qD h
   exact⟨y,by simp [hy],e⟩
structure YSt (P:Program) (B:Nat) (o:Oper) (tm:Tm) (zm zm':Zm) (nx nx':Nat) (v:V) (up rd:List Nat) (e:Eff):Prop where
 val:e.v=v
 nxt:nx'=nx + e.nw.length
 ups:e.up.map (·.1)=up
 rds:e.rd=rd
 upk:∀ x∈e.up,∃ b,gm zm x.1=some b
 kn:∀ id,(id < nx∨nx'≤id)→gm zm id=none→gm zm' id=none
 sem:∀ M,Sub (gm zm) M→OpSem P B o (ev Gl.G tm) M nx e
 sub:KB zm nx→∀ M,Sub (gm zm) M→Sub (gm zm') (put M nx e)
theorem OpSem.agree {P:Program}{B:Nat}{o:Oper}{ρ:Operand→V}{m m':Mem}{n:Nat}{e:Eff}(h:OpSem P B o ρ m n e) (hr:∀ id∈e.rd,m' id=m id) (hu:∀ x∈e.up,m' x.1=m x.1):OpSem P B o ρ m' n e :=
 fun C M ρc h1 h2 h3 h4 h5=>h C M ρc h1 (fun id hid=>(h2 id hid).trans (hr id hid)) (fun x hx=>(h3 x hx).trans (hu x hx)) h4 h5
section
variable {P:Program}{B:Nat}{o:Oper}{tm:Tm}{zm:Zm}{nx:Nat}
end
structure YT (C:Ctx) (tm:Tm) (a:Act) (N:Nat):Prop where
 tv:∀ t,R C (tv tm t) (.val (a.tmps.getD t undef))
 size:a.tmps.size=N
 defers:a.defers=[]
omit [Gl] in
theorem ztU {tm:Tm}{v:V}{t d:Nat}:tv (set v (enc d) tm) t=if t=d then v else tv tm t:=Xh _ _ _ _ _
omit [Gl] in
theorem zfT (ops:Array Oper) (j:Nat):Y0 ops.toList j=(ops[j]?).bind (·.dst):=by
 unfold Y0; rw[Array.getElem?_toList]
section
variable {P:Program}{B H:Nat}{C:Ctx}{M:Mem}{tm:Tm}{zm:Zm}{nx:Nat}{a:Act}{N:Nat}
theorem zdj (hz:YR B H C M zm nx) (ht:YT C tm a N) {r:ResultVar}{v:V}(h:rvO P tm zm r=some v):∃ val,(rdV a r).run P C.w=.ok val C.w∧R C v (.val val):=by
 cases r with
 | tmp t=>cases h; exact⟨_,rfl,ht.tv t⟩
 | cell p t =>
  simp only[rvO] at h
  split at h
  ·rename_i s d hs hd
   split at h
   ·rename_i id q s' hp
    split at h
    ·rename_i blk hb
     split at h
     ·rename_i hc
      simp only[Bool.and_eq_true] at hc
      obtain rfl:=Shape.eq_of_beq hc.2
      cases h
      have hr:=ht.tv p
      rw[hp] at hr
      obtain⟨hal',g,off,h5,h6,h7⟩:=hr
      have h7':a.tmps.getD p undef=.pointer (some ⟨g,off,none⟩):=h7
      obtain⟨h8,_⟩:=BR.at (hz.sr.mem _ _ (hz.sub _ _ hb)) hc.1 h5 h6
      obtain⟨val,h9,h10⟩:=vi hs hd h8
      exact⟨val,by simp only[rdV,h7']; simpa [asAddr] using h9,h10⟩
     ·cases h
    ·cases h
   ·cases h
  ·cases h
theorem YM (hz:YR B H C M zm nx) (ht:YT C tm a N):∀ {l:List ResultVar}{v:V},rvL P tm zm l=some v→∃ xs,(l.mapM (rdV a)).run P C.w=.ok xs C.w∧R C v (.list xs)∧xs.length=l.length
 | [],v,h=>by cases h; exact⟨[],rfl,rfl,rfl⟩
 | r::l,v,h=>by
  simp only[rvL] at h
  split at h
  ·rename_i v1 v2 h1 h2
   cases h
   obtain⟨x,e1,r1⟩:=zdj hz ht h1
   obtain⟨xs,e2,r2,hl⟩:=YM hz ht h2
   refine⟨x::xs,?_,⟨x,xs,rfl,r1,r2⟩,by simp [hl]⟩
   rw[List.mapM_cons,Sem.run_bind,e1,Result.andThen_ok,Sem.run_bind,e2,Result.andThen_ok,Sem.run_pure]
  ·cases h
theorem zfU (hz:YR B H C M zm nx) (ht:YT C tm a N) {fn:Func}{v:V}(h:rvA P tm zm fn.results.toList=some v):∃ val,(results fn a.tmps).run P C.w=.ok val C.w∧R C v (.val val):=by
 have key:∀ {w:V},rvL P tm zm fn.results.toList=some w→∃ xs:List Value,(fn.results.mapM (rdV a)).run P C.w=.ok xs.toArray C.w∧R C w (.list xs)∧xs.length=fn.results.toList.length:=by
  intro w hw
  obtain⟨xs,h1,h2,h3⟩:=YM hz ht hw
  refine⟨xs,?_,h2,h3⟩
  have:fn.results=fn.results.toList.toArray:=by simp
  rw[this,List.mapM_toArray,map_eq_pure_bind,Sem.run_bind,h1]; rfl
 unfold rvA at h
 split at h
 ·rename_i r hr
  obtain⟨xs,h1,h2,h3⟩:=key (w:=.cons v .nl) (by rw[hr]; simp [rvL,h])
  obtain⟨x,xs',rfl,h4,h5⟩:=h2
  rw[hr] at h3
  have h6:xs'=[]:=by simpa using h3
  subst h6
  refine⟨x,?_,h4⟩
  rw[j5,Sem.run_bind,h1]; rfl
 ·rename_i hne
  cases hl:rvL P tm zm fn.results.toList with
  | none=>rw[hl] at h; cases h
  | some w =>
   rw[hl] at h
   simp only[Option.map_some,Option.some.injEq] at h
   subst h
   obtain⟨xs,h1,h2,h3⟩:=key hl
   refine⟨.tuple xs.toArray,?_,xs.toArray,rfl,by simpa using h2⟩
   rw[j5,Sem.run_bind,h1]
   have h4:¬ xs.toArray.size=1:=by
    intro h5
    simp only[List.size_toArray] at h5
    rw[h5] at h3
    match hm:fn.results.toList,h3 with
    | [r],_=>exact hne r hm
    | [],h3=>simp at h3
    | _::_::_,h3=>simp at h3
   rw[Result.andThen_ok,dif_neg h4,Sem.run_pure]
def YN:List V→Nat→Tm→Tm
 | [],_,t=>t
 | x::l,i,t=>YN l (i + 1) (set x (enc i) t)
omit [Gl] in
theorem Xa:∀(l:List V) (i:Nat) (t:Tm) (q:Nat),tv (YN l i t) q=if i≤q∧q < i + l.length then l.getD (q - i) .unk else tv t q
 | [],i,t,q=>by rw[if_neg (by simp only[List.length_nil]; omega)]; rfl
 | x::l,i,t,q=>by
  rw[show YN (x::l) i t=YN l (i + 1) (set x (enc i) t) from rfl,Xa l,ztU]
  by_cases h1:i + 1≤q∧q < i + 1 + l.length
  ·rw[if_pos h1,if_pos (by simp only[List.length_cons]; omega)]
   rw[show q - i=(q - (i + 1)) + 1 by omega]; rfl
  ·rw[if_neg h1]
   by_cases h2:q=i
   ·subst h2; rw[if_pos rfl,if_pos (by simp)]; simp
   ·rw[if_neg h2,if_neg (by simp only[List.length_cons]; omega)]
omit [Gl] in
theorem wn:∀ {l:List V}{vs:List Value},R C (mkL l) (.list vs)→l.length=vs.length∧∀ i,i < l.length→R C (l.getD i .unk) (.val (vs.getD i undef))
 | [],vs,h=>by obtain rfl:vs=[]:=h; exact⟨rfl,fun i hi=>by simp at hi⟩
 | x::l,vs,h=>by
  obtain⟨v,vs',rfl,h1,h2⟩:=h
  obtain⟨h3,h4⟩:=wn (l:=l) h2
  refine⟨by simp [h3],fun i hi=>?_⟩
  cases i with
  | zero=>exact h1
  | succ i=>exact h4 i (by simpa using hi)
omit [Gl] in
theorem X5:∀ {l r:List V}{vs ws:List Value},R C (mkL l) (.list vs)→R C (mkL r) (.list ws)→R C (mkL (l++r)) (.list (vs++ws))
 | [],r,vs,ws,h1,h2=>by obtain rfl:vs=[]:=h1; exact h2
 | x::l,r,vs,ws,h1,h2=>by
  obtain⟨v,vs',rfl,h3,h4⟩:=h1
  exact⟨v,vs'++ws,rfl,h3,X5 h4 h2⟩
omit [Gl] in
theorem YT.enter {l:List V}{vs:List Value}(h:R C (mkL l) (.list vs)) (n:Nat) :
  YT C (YN l 0 .e) { tmps:=vs.toArray++Array.replicate (n - vs.toArray.size) undef,defers:=[] } (vs.length + (n - vs.length)):=by
 obtain⟨h1,h2⟩:=wn h
 refine⟨fun t=>?_,by simp,rfl⟩
 rw[Xa]
 by_cases ht:t < l.length
 ·rw[if_pos (by omega)]
  have h3:(vs.toArray++Array.replicate (n - vs.toArray.size) undef).getD t undef=vs.getD t undef:=by
   rw[Array.getD_eq_getD_getElem?,Array.getElem?_append_left (by simpa [←h1] using ht)]
   simp
  rw[h3]
  exact h2 t ht
 ·rw[if_neg (by omega)]
  show R C (get .unk (enc t) .e) _
  rw[XM]; trivial
end
end
end Go.Y
namespace Go.Y
open Go.Ab Go.RowKit
noncomputable section
variable [Gl]
def vh (P:Program) (f:FuncId) (c:CSpec):Prop :=
 (∃ fn,P.funcs[f]?=some fn∧(fn.name == "runtime.NumGoroutine")=false∧fn.body.isNone=false) ∧
 ∀(C:Ctx) (args:List V) (vals:List Value),(∀ u b,C.ok u b→b < C.w.heap.size)→(∀ g,R C.pur (Gl.G g) (.val (.pointer (some ⟨g,0,none⟩))))→R C.pur (mkL args) (.list vals)→c.pre args →
  Calls P f vals.toArray C.w fun e w'=>Below C.w.heap.size C.w w'∧∃ r,e=.returned r ∧
   R { C.pur with w:=w',ok:=fun u b=>(c.fresh=false∧∃ u',C.ok u' b)∨(C.w.heap.size≤b∧b < w'.heap.size) } (c.res args) (.val r)
def CTG (P:Program) (ct:yP):Prop:=∀ f c,ct f=some c→vh P f c
omit [Gl] in
theorem vR {N M:Nat}(h:N≤M):∀ {c:Code},cOk N c=true→cOk M c=true:=by
 have hd:∀ d,dOk N d=true→dOk M d=true:=by
  intro d hd
  cases d with
  | none=>rfl
  | some d=>simp only[dOk,decide_eq_true_eq] at hd ⊢; exact Nat.lt_of_lt_of_le hd h
 intro c
 induction c with
 | region id ops draw=>intro hc; simp only[cOk,List.all_eq_true] at hc ⊢; exact fun o ho=>hd _ (hc o ho)
 | seq a b ih1 ih2=>intro hc; simp only[cOk,Bool.and_eq_true] at hc ⊢; exact⟨ih1 hc.1,ih2 hc.2⟩
 | cond t a b ih1 ih2=>intro hc; simp only[cOk,Bool.and_eq_true] at hc ⊢; exact⟨ih1 hc.1,ih2 hc.2⟩
 | block id c ih=>intro hc; exact ih hc
 | loop c ih=>intro hc; exact ih hc
 | scope c ih=>intro hc; exact ih hc
 | rangeFunc f ps a b ih1 ih2 =>
  intro hc
  simp only[cOk,Bool.and_eq_true,List.all_eq_true,decide_eq_true_eq] at hc ⊢
  exact⟨fun p hp=>Nat.lt_of_lt_of_le (hc.1 p hp) h,ih1 hc.2.1,ih2 hc.2.2⟩
 | _=>intro _; rfl
def zzS (f:Func):Bool:=!(f.name == "runtime.NumGoroutine")&&(match f.body with | some c=>cOk f.ntmps c | none=>true)
def FnsOk (P:Program):Prop:=P.funcs.toList.all zzS=true
omit [Gl] in
theorem FnsOk.get {P:Program}(h:FnsOk P) {f:Nat}{fn:Func}(hf:P.funcs[f]?=some fn):(fn.name == "runtime.NumGoroutine")=false∧∀ c,fn.body=some c→cOk fn.ntmps c=true:=by
 have h2:=List.all_eq_true.1 h fn (by
  obtain⟨hlt,he⟩:=Array.getElem?_eq_some_iff.1 hf
  rw[←he]
  exact Array.getElem_mem_toList hlt)
 simp only[zzS,Bool.and_eq_true,Bool.not_eq_true'] at h2
 refine⟨h2.1,fun c hc=>?_⟩
 have h3:=h2.2
 rw[hc] at h3
 exact h3
structure Env (P:Program) (ct:yP):Prop where
 fns:FnsOk P
 ct:CTG P ct
 gn:∀ g,vx (Gl.G g)=true
 gb:∀ g,borrow (Gl.G g)=Gl.G g
 mixed:P.follows .mixedOrders=true
structure YF (B H:Nat) (C:Ctx) (M:Mem) (zm:Zm) (nx:Nat) (N:Nat) (tm':Tm) (zm':Zm) (nx':Nat) (C':Ctx) (M':Mem) (a':Act):Prop where
 yr:YR B H C' M' zm' nx'
 yt:YT C' tm' a' N
 yc:YC B H C M zm nx C' M' zm' nx'
def zF7 (B H:Nat) (C:Ctx) (M:Mem) (zm:Zm) (nx:Nat) (N:Nat) (e:Exit) (tm':Tm) (zm':Zm) (nx':Nat) (e':Exit) (a':Act) (w':World):Prop :=
 e'=e∧∃ C' M',C'.w=w'∧YF B H C M zm nx N tm' zm' nx' C' M' a'
def zfQ (P:Program) (B:Nat) (c:Code) (tm:Tm) (zm:Zm) (nx:Nat) (N:Nat) (e:Exit) (tm':Tm) (zm':Zm) (nx':Nat):Prop :=
 ∀(H:Nat) (C:Ctx) (M:Mem) (a:Act),nx'≤H→YR B H C M zm nx→YT C tm a N→c.wp P (zF7 B H C M zm nx N e tm' zm' nx') a C.w
section
variable {P:Program}{ct:yP}{B:Nat}{r:RUN}
omit [Gl] in
theorem YK {C:Ctx}{v:V}{vs:List Value}(h:R C v (.list vs)):R C (mkL (unL v)) (.list vs):=R.unL v h
omit [Gl] in
theorem Ql {o:Oper}{f:Operand}{args:Array Operand}{ts:Array TypeId}{ρ:Operand→V}{ρc:Operand→Value}{C:Ctx}(ho:o.op=.call ⟨.value f,args,ts⟩) (hx:∀ x∈o.op.operands.toList,R C (ρ x) (.val (ρc x))):R C (ρ f) (.val (ρc f))∧R C (mkL (args.toList.map ρ)) (.list (args.toList.map ρc)) :=
 ⟨hx f (by simp [ho,Op.operands,Call.operands]),R.mkL (C:=C) (ρ:=ρ) (ρc:=ρc) args.toList fun x hxx=>hx x (by simp [ho,Op.operands,Call.operands]; exact .inr (by simpa using hxx))⟩
theorem zfR {C:Ctx}{M:Mem}{c:CSpec}{fid:FuncId}{s:Sem Next}{vals:List Value}{l:V}(hs:SR B C M) (hGn:∀ g,vx (Gl.G g)=true) (hc:vh P fid c)
  (hrun:s.run P C.w=.ok (.enter fid vals.toArray) C.w) (hl:(c.fresh=true∧R (C.opened B) l (.list vals))∨R C.pur l (.list vals)) (hp:c.pre (unL l)) :
  Does P s C.w fun val w'=>∃ C',C'.w=w'∧R C' (Vv c l) (.val val)∧Kp B C C'∧SR B C' M∧(∀ id,C'.al id→C.al id):=by
 let ok':World→Bool→Nat→Prop:=fun w' u b=>(C.ok u b∨(u=true∧C.ok false b))∨(C.w.heap.size≤b∧b < w'.heap.size)
 unfold Does
 rw[hrun]
 have fin:∀(e':Ending) (w':World) (r:Value) (D:Ctx),Below C.w.heap.size C.w w'→e'=.returned r→(c.fresh=true∨∀ u b,D.ok u b→C.ok u b) →
   R { D.pur with w:=w',ok:=fun u b=>(c.fresh=false∧∃ u',D.ok u' b)∨(C.w.heap.size≤b∧b < w'.heap.size) } (c.res (unL l)) (.val r) →
   ∃ v,e'=.returned v∧∃ C',C'.w=w'∧R C' (Vv c l) (.val v)∧Kp B C C'∧SR B C' M∧(∀ id,C'.al id→C.al id):=by
  intro e' w' r D hb he hD hr
  obtain⟨hs2,hk2⟩:=hs.grown hb (ok' w') (fun u b h=>.inl (.inl h)) (fun u b h=>h)
  refine⟨r,he,{ C with w:=w',ok:=ok' w' },rfl,?_,hk2,hs2,fun id h=>h⟩
  unfold Vv
  cases hf:c.fresh with
  | true =>
   refine R.keep (C:={ D.pur with w:=w',ok:=_ }) (C':={ C with w:=w',ok:=ok' w' }) ⟨fun _ h=>h.elim,fun _ h=>h.elim,fun _ h=>h.elim,?_,fun _ _ _=>rfl⟩ _ _ hr
   intro u b hb2
   rcases hb2 with ⟨h8,_⟩ | h8
   ·rw[hf] at h8; cases h8
   ·exact .inr h8
  | false =>
   have hD':∀ u b,D.ok u b→C.ok u b:=by
    rcases hD with h | h
    ·rw[hf] at h; cases h
    ·exact h
   have h8:=R.borrow (ok':=ok' w') _ (C:={ D.pur with w:=w',ok:=_ }) ?_ hr
   ·exact R.keep (C:={ D.pur with w:=w',ok:=ok' w' }) (C':={ C with w:=w',ok:=ok' w' }) ⟨fun _ h=>h.elim,fun _ h=>h.elim,fun _ h=>h.elim,fun _ _ h=>h,fun _ _ _=>rfl⟩ _ _ h8
   ·intro u b hb2
    rcases hb2 with ⟨_,u',h9⟩ | h9
    ·cases u'
     ·exact .inl (.inr ⟨rfl,hD' _ _ h9⟩)
     ·exact .inl (.inl (hD' _ _ h9))
    ·exact .inr h9
 rcases hl with ⟨hf,hl⟩ | hl
 ·refine (hc.2 (C.opened B) (unL l) _ ?_ (fun g=>R.keep (Keep.opened C B) _ _ (R.pure_of _ (hGn g) (hs.gl g))) (YK hl) hp).mono fun e' w' ⟨hb,r,he,hr⟩=>fin e' w' r (C.opened B) hb he (.inl hf) hr
  intro u b hb
  rcases hb with hb | hb
  ·exact hs.okLt u b hb
  ·exact hb.2
 ·exact (hc.2 C.pur (unL l) _ hs.okLt (fun g=>R.pure_of _ (hGn g) (R.pure_of _ (hGn g) (hs.gl g))) (YK hl) hp).mono fun e' w' ⟨hb,r,he,hr⟩=>fin e' w' r C.pur hb he (.inr fun _ _ h=>h) hr
end
end
end Go.Y
namespace Go.Y
open Go.Ab Go.RowKit
noncomputable section
variable [Gl]
section
variable {P:Program}{ct:yP}{B:Nat}{r:RUN}
omit [Gl] in
theorem X8 {C:Ctx}{caps:V}{cs:List Value}(h:R C caps (.list cs)):R C (mkL (unL caps)) (.list cs):=R.unL caps h
def zz4:List TE→List ZTE→Prop
 | [],[]=>True
 | te::r,z::s=>zz4 r s∧te.o=z.o∧te.n=z.lo∧te.n + te.e.nw.length=z.hi∧te.e.up.map (·.1)=z.up∧te.e.rd=z.rd
 | _,_=>False
def wu:Blk:=⟨.dead,.nl,.unk⟩
structure YTr (P:Program) (B:Nat) (ops:Array Oper) (N:Nat) (tm0:Tm) (zm0:Zm) (nx0:Nat) (tm:Tm) (zm:Zm) (nx:Nat) (tr:List TE) (zs:List ZTE):Prop where
 corr:zz4 tr zs
 tv:∀ t,tv tm t=Ab.look wrT (tv tm0) (fun _=>true) tr t
 nxe:nx=jq nx0 tr
 le:nx0≤nx
 kb:KB zm nx
 mem:∀ M,Sub (gm zm0) M→Valid P B Gl.G ops N (Y.tv tm0) M nx0 tr∧Sub (gm zm) (Ab.look wrM M (fun _=>true) tr) ∧
  ∀ id,(id < nx0∨nx≤id)→gm zm0 id=none→Ab.look wrM M (fun _=>true) tr id=M id∧gm zm id=none
end
end
end Go.Y
namespace Go.Y
open Go.Ab Go.RowKit
noncomputable section
variable [Gl]
section
variable {P:Program}{ct:yP}{B:Nat}{r:RUN}
inductive LoopOut (P:Program) (B:Nat) (c:Code) (N:Nat) (e:Exit) (tm':Tm) (zm':Zm) (nx':Nat):Nat→Tm→Zm→Nat→Prop where
 | out {k:Nat}{tm:Tm}{zm:Zm}{nx:Nat}(h:zfQ P B c tm zm nx N e tm' zm' nx') (he:e≠.normal) (hle:nx≤nx'):LoopOut P B c N e tm' zm' nx' (k + 1) tm zm nx
 | round {k:Nat}{tm tm1:Tm}{zm zm1:Zm}{nx nx1:Nat}(h:zfQ P B c tm zm nx N .normal tm1 zm1 nx1) (hle:nx≤nx1) (h2:LoopOut P B c N e tm' zm' nx' k tm1 zm1 nx1):LoopOut P B c N e tm' zm' nx' (k + 1) tm zm nx
section
variable {N:Nat}{tm:Tm}{zm:Zm}{nx:Nat}{K:K3}
end
end
end
end Go.Y
namespace Go.Y
open Go.Ab Go.RowKit
noncomputable section
variable [Gl]
def wkV (n:Nat) (v w:V):Prop:=match w with
 | .unk=>True
 | w=>v.le w∧v.bel n
def wkB (n:Nat) (b:Option Blk) (c:Blk):Prop:=match c.k with
 | .dead=>∃ x,b=some x
 | .lp ..=>False
 | k=>∃ x,b=some x∧x.k=k∧x.sh=c.sh∧x.v.le c.v∧x.v.bel n
def WkT (n:Nat) (tm tm1:Tm):Prop:=∀ t,wkV n (tv tm t) (tv tm1 t)
def WkZ (n:Nat) (zm zm1:Zm):Prop:=∀ id c,gm zm1 id=some c→id < n∧wkB n (gm zm id) c
def Vu (C:Ctx) (n H:Nat):Ctx:={ C with al:=fun id=>C.al id∧(id < n∨H≤id) }
omit [Gl] in
theorem R.cutLow {C:Ctx}{n H:Nat}(v:V) {m:Ab.M}(hb:v.bel n) (h:R C v m):R (Vu C n H) v m:=by
 have h1:=R.cut v hb h
 refine R.keep (C:=C.cut n) ?_ _ _ h1
 exact⟨fun id hid=>⟨hid.1,.inl hid.2⟩,fun _ _=>rfl,fun _ _=>rfl,fun _ _ h=>h,fun _ _ _=>rfl⟩
omit [Gl] in
theorem R.two {C0 C:Ctx}{n H:Nat}(h0:∀ id,C0.al id→id < n∨H≤id) (v:V):∀ {m0 m:Ab.M},R C0 v m0→R C v m→R (Vu C n H) v m:=by
 have aln:∀ {v:V}{id:Nat}{m0:Ab.M},(∃ p s,v=.ptr id p s)∨(∃ e k,v=.row id e k)∨(∃ p e off len cap,v=.sl id p e off len cap)→R C0 v m0→id < n∨H≤id:=by
  rintro v id m0 (⟨p,s,rfl⟩ | ⟨e,k,rfl⟩ | ⟨p,e,off,len,cap,rfl⟩) h
  ·exact h0 _ h.1
  ·exact h0 _ h.1
  ·exact h0 _ h.1
 have purk:∀ {v:V}{m:Ab.M},R C.pur v m→R (Vu C n H) v m:=fun h=>R.keep (C:=C.pur) (C':=Vu C n H) ⟨fun _ h=>h.elim,fun _ h=>h.elim,fun _ h=>h.elim,fun _ _ h=>h,fun _ _ _=>rfl⟩ _ _ h
 induction v with
 | ptr id p s=>intro m0 m h h'; exact⟨⟨h'.1,aln (.inl ⟨_,_,rfl⟩) h⟩,h'.2⟩
 | row id e k=>intro m0 m h h'; exact⟨⟨h'.1,aln (.inr (.inl ⟨_,_,rfl⟩)) h⟩,h'.2⟩
 | yld id=>intro m0 m h h'; exact⟨⟨h'.1,h0 _ h.1⟩,h'.2⟩
 | sl id p e off len cap=>intro m0 m h h'; exact⟨⟨h'.1,aln (.inr (.inr ⟨_,_,_,_,_,rfl⟩)) h⟩,h'.2⟩
 | cons x t ih1 ih2 =>
  intro m0 m h h'
  have hx:(∃ q,R C0 x q)∧∃ q,R C0 t q:=by
   cases m0 with
   | cel s g off=>obtain⟨a,b,h1,h2,h3⟩:=h; exact⟨⟨_,h2⟩,⟨_,h3⟩⟩
   | val v=>obtain⟨cs,a,b,h1,h2,h3,h4⟩:=h; exact⟨⟨_,h3⟩,⟨_,h4⟩⟩
   | list l=>obtain⟨y,ys,h1,h2,h3⟩:=h; exact⟨⟨_,h2⟩,⟨_,h3⟩⟩
  obtain⟨⟨q1,k1⟩,⟨q2,k2⟩⟩:=hx
  cases m with
  | cel s g off=>obtain⟨a,b,h1,h2,h3⟩:=h'; exact⟨a,b,h1,ih1 k1 h2,ih2 k2 h3⟩
  | val v=>obtain⟨cs,a,b,h1,h2,h3,h4⟩:=h'; exact⟨cs,a,b,h1,h2,ih1 k1 h3,ih2 k2 h4⟩
  | list l=>obtain⟨y,ys,h1,h2,h3⟩:=h'; exact⟨y,ys,h1,ih1 k1 h2,ih2 k2 h3⟩
 | arr k f ih =>
  intro m0 m h h'
  have hx:∀ i,i < k→∃ q,R C0 (f i) q:=by
   intro i hi
   cases m0 with
   | cel s g off=>obtain⟨e,h1,h2⟩:=h; exact⟨_,h2 i hi⟩
   | val v=>obtain⟨cs,e,h1,h2,h3⟩:=h; exact⟨_,h3 i hi⟩
   | list l=>exact h.elim
  cases m with
  | cel s g off=>obtain⟨e,h1,h2⟩:=h'; exact⟨e,h1,fun i hi=>by obtain⟨q,k1⟩:=hx i hi; exact ih i k1 (h2 i hi)⟩
  | val v=>obtain⟨cs,e,h1,h2,h3⟩:=h'; exact⟨cs,e,h1,h2,fun i hi=>by obtain⟨q,k1⟩:=hx i hi; exact ih i k1 (h3 i hi)⟩
  | list l=>exact h'
 | fn f c ih =>
  intro m0 m h h'
  obtain⟨_,_,k1,_⟩:=h
  obtain⟨cs,h1,h2,h3⟩:=h'
  exact⟨cs,h1,ih k1 h2,h3⟩
 | tup l ih =>
  intro m0 m h h'
  have hx:∃ q,R C0 l q:=by
   cases m0 with
   | val v=>obtain⟨cs,h1,h2⟩:=h; exact⟨_,h2⟩
   | cel=>exact h.elim
   | list=>exact h.elim
  obtain⟨q,k1⟩:=hx
  cases m with
  | val v=>obtain⟨cs,h1,h2⟩:=h'; exact⟨cs,h1,ih k1 h2⟩
  | cel=>exact h'
  | list=>exact h'
 | _=>intro m0 m _ h'; exact purk (R.pure_of _ rfl h')
omit [Gl] in
theorem BR.mk {B:Nat}{C:Ctx}{n H:Nat}{id:Nat}{b c:Blk}(h:BR B C id b) (hk:b.k=c.k) (hs:b.sh=c.sh) (hv:(∀ k ps x y,c.k≠.lp k ps x y)→∀ m,R C b.v m→R (Vu C n H) c.v m) (hl:∀ k ps x y,c.k=.lp k ps x y→LoopR B C id k ps x y b.v→LoopR B (Vu C n H) id k ps x y c.v):BR B (Vu C n H) id c:=by
 unfold BR at h ⊢
 rw[hk] at h
 cases hkd:c.k<;>simp only[hkd] at h ⊢
 ·obtain⟨g,cur,e,h1,h2,h3,h4,h5,h6,hT⟩:=h
  rw[hs] at h4 h5 h6
  exact⟨g,cur,e,h1,h2,h3,h4,h5,hv (by simp [hkd]) _ h6,hT⟩
 ·obtain⟨n1,s,cells,h1,h2,h3,h4⟩:=h
  rw[hs] at h1 h2 h4
  exact⟨n1,s,cells,h1,h2,h3,hv (by simp [hkd]) _ h4⟩
 ·exact hl _ _ _ _ hkd h
 ·obtain⟨g,es,clk,h1,h2,h3,h4⟩:=h
  exact⟨g,es,clk,h1,h2,h3,hv (by simp [hkd]) _ h4⟩
omit [Gl] in
theorem LoopR.two {B:Nat}{C0 C:Ctx}{n H id m:Nat}{ps:Array Tmp}{a b:Code}{v:V}(hold:∀ id,C0.al id→id < n∨H≤id) (h0:LoopR B C0 id m ps a b v) (h:LoopR B C id m ps a b v):LoopR B (Vu C n H) id m ps a b v:=by
 rcases h with ⟨l,r,st,n1,τ,h1,h2,h3,h4,h7,h8,k9,h10⟩ | h
 ·rcases h0 with ⟨_,r0,st0,n0,τ0,_,_,_,_,e0,_,h9,_⟩ | ⟨e0,_⟩
  ·rw[e0] at h7
   injection h7 with q1 q2
   injection q2 with q2 q3
   subst q1; subst q2; subst q3
   exact .inl ⟨l,r,_,_,_,h1,h2,h3,h4,e0,h8,fun t=>R.two hold _ (h9 t) (k9 t),h10⟩
  ·rw[e0] at h7; cases h7
 ·exact .inr h
section
variable {P:Program}{ct:yP}{B N:Nat}
inductive LoopWk (P:Program) (B:Nat) (c:Code) (N nx0 nb:Nat) (e:Exit) (tm':Tm) (zm':Zm):Nat→Tm→Zm→Prop where
 | out {k:Nat}{tm:Tm}{zm:Zm}{nx1:Nat}(h:zfQ P B c tm zm nx0 N e tm' zm' nx1) (he:e≠.normal) (hle:nx0≤nx1) (hb:nx1≤nb):LoopWk P B c N nx0 nb e tm' zm' (k + 1) tm zm
 | round {k:Nat}{tm tm1 tm2:Tm}{zm zm1 zm2:Zm}{nx1:Nat}(h:zfQ P B c tm zm nx0 N .normal tm1 zm1 nx1) (hle:nx0≤nx1) (hb:nx1≤nb) (hwt:WkT nx0 tm1 tm2) (hwz:WkZ nx0 zm1 zm2) (h2:LoopWk P B c N nx0 nb e tm' zm' k tm2 zm2):LoopWk P B c N nx0 nb e tm' zm' (k + 1) tm zm
def ze1 (lt li:List Nat) (Q:Exit→List V→List (Option Blk)→Nat→Prop):K3:=fun e tm zm nx=>Q e (lt.map (tv tm)) (li.map (gm zm)) nx
end
end
end Go.Y
namespace Go.Y
open Go.Ab Go.RowKit
noncomputable section
variable [Gl]
section
variable {P:Program}{ct:yP}{B N:Nat}
section
variable {tm tm1:Tm}{zm zm1:Zm}{nx:Nat}{K:K3}{c:Code}
end
end
end
end Go.Y
namespace Go.Y
open Go.Ab Go.RowKit
noncomputable section
variable [Gl]
section
variable {P:Program}{ct:yP}{B N nt nx:Nat}{c c2:Code}{tm:Tm}{zm:Zm}{K:K3}{u:Bool}{fu:Nat}
end
end
end Go.Y
