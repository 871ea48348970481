/- The run is right: regions in order, regions in whatever order. No condition. -/
import Derived.Test.YtkllahedaiddgaaGreatDoorB16
set_option linter.unusedSimpArgs false
set_option linter.unusedVariables false
namespace Go.Y
open Go.Ab Go.RowKit
noncomputable section
variable [Gl]
inductive BadV (o:Op):Prop
inductive BadN (n:Nat):Prop
omit [Gl] in
theorem BadV.elim {o:Op}{p:Prop}(h:BadV o):p:=(by cases h)
omit [Gl] in
theorem BadN.elim {n:Nat}{p:Prop}(h:BadN n):p:=(by cases h)
def Qk (v:V) (K:V→Prop):Prop :=
 @V.rec (fun _=>Prop) (fun k n=>K (.int k n)) (fun b=>K (.bool b)) (fun s=>K (.str s)) (K .nl) (fun h t _ _=>K (.cons h t)) (fun n f _=>K (.arr n f)) (fun id p s=>K (.ptr id p s)) (fun id e n=>K (.row id e n))
  (fun id p e off len cap=>K (.sl id p e off len cap)) (fun w s c _=>K (.ref w s c)) (K .nilp) (K .nils) (K .nilf) (fun w clip s len f _=>K (.ro w clip s len f)) (fun f c _=>K (.fn f c)) (fun l _=>K (.tup l)) (K .unk) (fun id=>K (.yld id)) v
omit [Gl] in
theorem JA (v:V) (K:V→Prop):Qk v K=K v:=by cases v<;>rfl
def Ql (k:Kind) (K:Kind→Prop):Prop:=@Kind.rec (fun _=>Prop) (fun t=>K (.box t)) (fun e=>K (.row e)) (K .dead) (fun m ps a b=>K (.lp m ps a b)) (K .mp) k
omit [Gl] in
theorem zav (v:Kind) (K:Kind→Prop):Ql v K=K v:=by cases v<;>rfl
def Zy (b:Blk) (K:Option Blk→Prop):Prop:=@Blk.rec (fun _=>Prop) (fun k sh v=>Ql k fun k=>Qk v fun v=>K (some ⟨k,sh,v⟩)) b
omit [Gl] in
theorem JB (b:Blk) (K:Option Blk→Prop):Zy b K=K (some b):=by
 obtain⟨k,sh,v⟩:=b
 unfold Zy
 show Ql k (fun k=>Qk v fun v=>K (some ⟨k,sh,v⟩))=_
 rw[zav,JA]
def mapL (g:V→V):V→V
 | .cons h t=>.cons (mapL g h) (mapL g t)
 | .arr n f=>.arr n fun i=>mapL g (f i)
 | .fn f c=>.fn f (mapL g c)
 | .tup l=>.tup (mapL g l)
 | v=>g v
def cutL (v:V):V:=match v with
 | .ptr .. | .row .. | .sl .. | .yld _=>.unk
 | v=>v
def wN (cap:Option Nat) (len:Nat):Bool:=match cap with
 | some k=>Nat.beq k len
 | none=>false
def leafZ (m:Mem) (g:V→V) (v:V):V:=match v with
 | .ptr id p s=>match m id with
  | some blk=>if blk.alive then .ref false s (g (blk.v.path p)) else .unk
  | none=>.unk
 | .row id e n=>match m id with
  | some blk=>if blk.alive then match blk.v with
   | .arr _ f=>.ro false false e n fun i=>g (f i)
   | _=>.unk
   else .unk
  | none=>.unk
 | .sl id p e off len cap=>match m id with
  | some blk=>if blk.alive then match blk.v.path p with
   | .arr _ f=>.ro false (wN cap len) e len fun i=>g (f (off + i))
   | _=>.unk
   else .unk
  | none=>.unk
 | .yld _=>.unk
 | v=>v
def frz (m:Mem):Nat→V→V
 | 0=>mapL cutL
 | k + 1=>mapL (leafZ m (frz m k))
def resM (m:Mem):V→Option (Bool×V×List Nat)
 | .row id e n=>match m id with
  | some blk=>if blk.alive then match blk.v with
   | .arr _ f=>some ((List.range n).all fun i=>xy (f i),.ro false false e n f,[id])
   | _=>none
   else none
  | none=>none
 | .sl id p e off len cap=>match m id with
  | some blk=>if blk.alive then match blk.v.path p with
   | .arr _ f=>some ((List.range len).all fun i=>xy (f (off + i)),.ro false (wN cap len) e len (fun i=>f (off + i)),[id])
   | _=>none
   else none
  | none=>none
 | .ptr id p s=>match m id with
  | some blk=>if blk.alive&&xy (blk.v.path p) then some (true,.ref false s (blk.v.path p),[id]) else none
  | none=>none
 | .cons h t=>match resM m h,resM m t with
  | some (p,h',r),some (q,t',r')=>some (p&&q,.cons h' t',r++r')
  | _,_=>none
 | .tup l=>match resM m l with
  | some (p,l',r)=>some (p,.tup l',r)
  | none=>none
 | v=>if xy v then some (true,v,[]) else none
abbrev KT:=V→Zm→Nat→List Nat→List Nat→Prop
abbrev CL:=V→List V→Zm→Nat→KT→Prop
def upK (l:List (Nat×Blk)):Zm→(Zm→Prop)→Prop:=@List.rec (Nat×Blk) (fun _=>Zm→(Zm→Prop)→Prop) (fun zm K=>K zm) (fun x _ ih zm K=>ih zm fun zm=>Zy x.2 fun b=>z7 b (enc x.1) zm K) l
def nwK (l:List Blk):Zm→Nat→(Zm→Nat→Prop)→Prop:=@List.rec Blk (fun _=>Zm→Nat→(Zm→Nat→Prop)→Prop) (fun zm nx K=>K zm nx) (fun b _ ih zm nx K=>Zy b fun b=>z7 b (enc nx) zm fun zm=>zJ (Nat.succ nx) fun nx=>ih zm nx K) l
def apK (e:Eff) (zm:Zm) (nx:Nat) (K:KT):Prop:=upK e.up zm fun zm=>nwK e.nw zm nx fun zm nx=>K e.v zm nx (e.up.map (·.1)) e.rd
def rsK (o:Op) (r:RS) (zm:Zm) (nx:Nat) (K:KT):Prop:=@RS.rec (fun _=>Prop) (BadV o) (fun e=>apK e zm nx K) (fun c e=>cnd c (apK e zm nx K)) (fun p e=>p∧apK e zm nx K) r
def ev (G:Nat→V) (tm:Tm):Operand→V:=opv G (tv tm)
def yop (cl:CL) (P:Program) (G:Nat→V) (tm:Tm) (o:Op) (zm:Zm) (nx:Nat) (K:KT):Prop :=
 match o with
 | .call ⟨.value f,args,_⟩=>cl (ev G tm f) (args.toList.map (ev G tm)) zm nx K
 | o=>rsK o (zsj P o (ev G tm) (gm zm) nx) zm nx K
abbrev K3:=Exit→Tm→Zm→Nat→Prop
abbrev RUN:=Code→Tm→Zm→Nat→K3→Prop
def Qm (d:Option Tmp) (v:V) (tm:Tm) (f:Tm→Prop):Prop:=@Option.rec Tmp (fun _=>Prop) (f tm) (fun d=>Qk v fun v=>z7 v (enc d) tm f) d
def two (b:Bool) (t:Nat) (tm:Tm) (f:Bool→Tm→Prop):Prop:=alt b (z7 (.bool true) (enc t) tm (f true)) (z7 (.bool false) (enc t) tm (f false))
def zni (v:V) (want:Bool) (d:Nat) (tm:Tm) (y n:Tm→Prop):Prop:=match v with
 | .bool b=>two b d tm fun b tm=>@Bool.rec (fun _=>Prop) (@Bool.rec (fun _=>Prop) (y tm) (n tm) b) (@Bool.rec (fun _=>Prop) (n tm) (y tm) b) want
 | .tup .nl=>n tm
 | _=>(BadN 1)
def zcg (G:Nat→V) (tm:Tm) (c:Operand) (f:Bool→Tm→Prop):Prop:=match c with
 | .tmp t=>match tv tm t with
  | .bool b=>two b t tm f
  | _=>(BadN 2)
 | c=>match ev G tm c with
  | .bool b=>alt b (f true tm) (f false tm)
  | _=>(BadN 3)
def WW (ops:List Oper) (j:Nat):Option Tmp:=(ops[j]?).bind (·.dst)
def zdW (ops:List Oper) (g:Option (Nat×Bool)) (tm:Tm) (y n:Tm→Prop):Prop:=match g with
 | none=>y tm
 | some (j,want)=>match WW ops j with
  | none=>(BadN 4)
  | some d=>zni (tv tm d) want d tm y n
def zwB (cl:CL) (P:Program) (G:Nat→V) (ops:List Oper) (o:Oper) (tm:Tm) (zm:Zm) (nx:Nat) (K:Tm→Zm→Nat→Prop):Prop :=
 zdW ops o.guard tm (fun tm=>yop cl P G tm o.op zm nx fun v zm nx _ _=>Qm o.dst v tm fun tm=>K tm zm nx) (fun tm=>Qm o.dst (.tup .nl) tm fun tm=>K tm zm nx)
def zeP (cl:CL) (P:Program) (G:Nat→V) (ops l:List Oper):(tm:Tm)→(zm:Zm)→Nat→(Tm→Zm→Nat→Prop)→Prop :=
 @List.rec Oper (fun _=>Tm→Zm→Nat→(Tm→Zm→Nat→Prop)→Prop) (fun tm zm nx K=>K tm zm nx) (fun o _ ih tm zm nx K=>zwB cl P G ops o tm zm nx fun tm zm nx=>ih tm zm nx K) l
def rvO (P:Program) (tm:Tm) (zm:Zm) (r:ResultVar):Option V:=match r with
 | .tmp t=>some (tv tm t)
 | .cell a t=>match zS P t,P.underlying t with
  | some s,some _=>match tv tm a with
   | .ptr id p s'=>match gm zm id with
    | some blk=>if blk.alive&&s'.beq s then some (blk.v.path p) else none
    | none=>none
   | _=>none
  | _,_=>none
def rvL (P:Program) (tm:Tm) (zm:Zm):List ResultVar→Option V
 | []=>some .nl
 | r::l=>match rvO P tm zm r,rvL P tm zm l with
  | some v,some w=>some (.cons v w)
  | _,_=>none
def rvA (P:Program) (tm:Tm) (zm:Zm) (l:List ResultVar):Option V:=match l with
 | [r]=>rvO P tm zm r
 | l=>(rvL P tm zm l).map .tup
def zch (v:Option V) (K:V→Prop):Prop:=match v with
 | some v=>K v
 | none=>(BadN 5)
def WX (P:Program) (rs:List ResultVar) (K:V→Zm→Nat→Prop) (e:Exit) (tm:Tm) (zm:Zm) (nx:Nat):Prop:=match e with
 | .normal=>zch (rvA P tm zm rs) fun v=>K v zm nx
 | .ret=>zch (rvA P tm zm rs) fun v=>K v zm nx
 | _=>(BadN 6)
def zeQ (l:List V):Nat→Tm→(Tm→Prop)→Prop:=@List.rec V (fun _=>Nat→Tm→(Tm→Prop)→Prop) (fun _ t K=>K t) (fun x _ ih i t K=>z7 x (enc i) t fun t=>ih (Nat.succ i) t K) l
abbrev yf:=FuncId→Option CSpec
def qt (run:RUN) (P:Program) (fid:FuncId) (l:List V) (zm:Zm) (nx:Nat) (K:V→Zm→Nat→Prop):Prop :=
 match P.funcs[fid]? with
 | some fn=>match fn.body with
  | some c=>zeQ l 0 .e fun tm=>run c tm zm nx (WX P fn.results.toList K)
  | none=>(BadN 7)
 | none=>(BadN 8)
def znj (c:CSpec) (zm:Zm) (nx:Nat) (args:V) (K:KT):Prop :=
 @Bool.rec (fun _=>Prop) (cnd (xy args&&c.pre (unL args)) (K (borrow (c.res (unL args))) zm nx [] [])) (cnd (c.pre (unL (frz (gm zm) 12 args))) (K (c.res (unL (frz (gm zm) 12 args))) zm nx [] [])) c.fresh
def jY (c:CSpec) (l:V):V:=@Bool.rec (fun _=>V) (borrow (c.res (unL l))) (c.res (unL l)) c.fresh
def znk (c:CSpec) (zm:Zm) (nx:Nat) (args:V) (K:KT):Prop:=match resM (gm zm) args with
 | some (p,l,rd)=>cnd ((c.fresh||rd.isEmpty)&&(p&&c.pre (unL l))) (K (jY c l) zm nx [] rd)
 | none=>(BadN 9)
def zci (con:CSpec→Zm→Nat→V→KT→Prop) (run:RUN) (P:Program) (ct:yf) (zr:Zm) (f:V) (l:List V) (zm:Zm) (nx:Nat) (K:KT):Prop:=match f with
 | .fn fid caps=>match ct fid with
  | some c=>cnd (Nat.blt fid 1073741824) (con c zm nx (appL l caps) K)
  | none=>cnd (Nat.blt fid 1073741824) (qt run P fid (l++unL caps) zr nx fun v zm nx=>K v zm nx [] [])
 | _=>(BadN 10)
def Z6 (run:RUN) (P:Program) (ct:yf):CL:=fun f l zm nx K=>zci znj run P ct zm f l zm nx K
def XJ (run:RUN) (P:Program) (ct:yf):CL:=fun f l zm nx K=>zci znk run P ct .e f l zm nx fun v z nx _ rd=>K v zm nx [] rd
def zjd (run:RUN) (b:Code) (K:K3) (e:Exit):Tm→Zm→Nat→Prop:=match e with
 | .normal=>fun tm zm nx=>run b tm zm nx K
 | e=>K e
def zaw (id:Nat) (K:K3) (e:Exit):Tm→Zm→Nat→Prop:=match e with
 | .exit i=>@Bool.rec (fun _=>Tm→Zm→Nat→Prop) (K (.exit i)) (K .normal) (Nat.beq i id)
 | e=>K e
def zax (K:K3) (e:Exit):Tm→Zm→Nat→Prop:=match e with
 | .goto _=>fun _ _ _=>(BadN 11)
 | e=>K e
inductive ZTE where
 | mk (o:Oper) (lo hi:Nat) (up rd:List Nat)
def ZTE.o:ZTE→Oper | .mk o _ _ _ _=>o
def ZTE.lo:ZTE→Nat | .mk _ l _ _ _=>l
def ZTE.hi:ZTE→Nat | .mk _ _ h _ _=>h
def ZTE.up:ZTE→List Nat | .mk _ _ _ u _=>u
def ZTE.rd:ZTE→List Nat | .mk _ _ _ _ r=>r
def JC (te:ZTE) (id:Nat):Bool:=Nat.ble te.lo id&&Nat.ble (Nat.succ id) te.hi
def zin (te:ZTE) (id:Nat):Bool:=te.up.any (fun j=>Nat.beq j id)||JC te id
def zrd (te:ZTE) (id:Nat):Bool:=te.rd.any fun j=>Nat.beq j id
def Qn (te te':ZTE):Bool :=
 te'.up.any (fun id=>zin te id||zrd te id)||te'.rd.any (zin te)||te.up.any (JC te')||te.rd.any (JC te')||(Nat.ble (Nat.succ te.lo) te'.hi&&Nat.ble (Nat.succ te'.lo) te.hi)
def zV (o:Oper) (k:Nat):Bool:=o.after.any fun e=>Region.binds .any e&&e.on==k
def XK (o o':Oper) (ops:Array Oper):Bool:=XH ⟨o,jn,0,false⟩ ⟨o',jn,0,false⟩ ops
def JD (ops:Array Oper):List ZTE→Bool
 | []=>true
 | te::r=>JD ops r&&(te.o.after.all fun e=>!(Region.binds .any e)||decide (e.on < r.length))&&against te r
where against (te:ZTE):List ZTE→Bool
 | []=>true
 | te'::r'=>(zV te.o r'.length||!(XK te.o te'.o ops||Qn te te'))&&against te r'
def zwC (cl:CL) (P:Program) (G:Nat→V) (ops:List Oper) (o:Oper) (tm:Tm) (zm:Zm) (nx:Nat) (K:Tm→Zm→Nat→ZTE→Prop):Prop :=
 zdW ops o.guard tm (fun tm=>yop cl P G tm o.op zm nx fun v zm nx' up rd=>Qm o.dst v tm fun tm=>K tm zm nx' (.mk o nx nx' up rd))
  (fun tm=>Qm o.dst (.tup .nl) tm fun tm=>K tm zm nx (.mk o nx nx [] []))
def zcj (cl:CL) (P:Program) (G:Nat→V) (ops l:List Oper):(tm:Tm)→(zm:Zm)→Nat→List ZTE→(Tm→Zm→Nat→List ZTE→Prop)→Prop :=
 @List.rec Oper (fun _=>Tm→Zm→Nat→List ZTE→(Tm→Zm→Nat→List ZTE→Prop)→Prop) (fun tm zm nx tr K=>K tm zm nx tr) (fun o _ ih tm zm nx tr K=>zwC cl P G ops o tm zm nx fun tm zm nx te=>ih tm zm nx (te::tr) K) l
def zwD (run:RUN) (P:Program) (G:Nat→V) (ct:yf) (ops:List Oper) (tm:Tm) (zm:Zm) (nx:Nat) (K:K3):Prop:=zeP (Z6 run P ct) P G ops ops tm zm nx (K .normal)
def znl (run:RUN) (P:Program) (G:Nat→V) (ct:yf) (ops:Array Oper) (tm:Tm) (zm:Zm) (nx:Nat) (K:K3):Prop :=
 zcj (XJ run P ct) P G ops.toList ops.toList tm zm nx [] fun tm zm nx tr=>cnd (JD ops tr) (K .normal tm zm nx)
def step (P:Program) (G:Nat→V) (ct:yf) (u:Bool) (run:RUN) (c:Code) (tm:Tm) (zm:Zm) (nx:Nat) (K:K3):Prop:=match c with
 | .skip=>K .normal tm zm nx
 | .label _=>K .normal tm zm nx
 | .region _ ops draw=>@Bool.rec (fun _=>Prop) (zwD run P G ct ops.toList tm zm nx K) (znl run P G ct ops tm zm nx K) draw
 | .seq a b=>run a tm zm nx (zjd run b K)
 | .cond c x y=>zcg G tm c fun b tm=>@Bool.rec (fun _=>Prop) (run y tm zm nx K) (run x tm zm nx K) b
 | .block id b=>run b tm zm nx (zaw id K)
 | .loop b=>@Bool.rec (fun _=>Prop) (BadN 12) (run b tm zm nx (zjd run (.loop b) K)) u
 | .exit i=>K (.exit i) tm zm nx
 | .scope b=>run b tm zm nx (zax K)
 | .ret=>K .ret tm zm nx
 | _=>(BadN 13)
def run (P:Program) (G:Nat→V) (ct:yf) (u:Bool) (fuel:Nat):RUN :=
 @Nat.rec (fun _=>RUN) (fun _ _ _ _ _=>(BadN 14)) (fun _ run c tm zm nx K=>step P G ct u run c tm zm nx K) fuel
end
end Go.Y
namespace Go.Y
open Go.Ab Go.RowKit
noncomputable section
variable [Gl]
omit [Gl] in
theorem R.mapL {C C':Ctx}{g:V→V}(hgo:∀ b,C.ok true b→C'.ok true b) (hgw:∀ b,C.ok true b→C'.w.heap[b]?=C.w.heap[b]?) (hg:∀ v,(∀ a b,v≠.cons a b)→(∀ n f,v≠.arr n f)→(∀ f c,v≠.fn f c)→(∀ l,v≠.tup l)→∀ m,R C v m→R C' (g v) m) (v:V):∀ {m:Ab.M},R C v m→R C' (Y.mapL g v) m:=by
 induction v with
 | cons x t ih1 ih2 =>
  intro m h
  cases m with
  | cel s g off=>obtain⟨a,b,h1,h2,h3⟩:=h; exact⟨a,b,h1,ih1 h2,ih2 h3⟩
  | val v=>obtain⟨cs,a,b,h1,h2,h3,h4⟩:=h; exact⟨cs,a,b,h1,h2,ih1 h3,ih2 h4⟩
  | list l=>obtain⟨y,ys,h1,h2,h3⟩:=h; exact⟨y,ys,h1,ih1 h2,ih2 h3⟩
 | arr n f ih =>
  intro m h
  cases m with
  | cel s g off=>obtain⟨e,h1,h2⟩:=h; exact⟨e,h1,fun i hi=>ih i (h2 i hi)⟩
  | val v=>obtain⟨cs,e,h1,h2,h3⟩:=h; exact⟨cs,e,h1,h2,fun i hi=>ih i (h3 i hi)⟩
  | list l=>exact h
 | fn f c ih=>intro m h; obtain⟨cs,h1,h2,h3⟩:=h; exact⟨cs,by rw[cs.vw_same h3 hgw]; exact h1,ih h2,h3.keep hgo hgw⟩
 | tup l ih =>
  intro m h
  cases m with
  | val v=>obtain⟨cs,h1,h2⟩:=h; exact⟨cs,h1,ih h2⟩
  | cel=>exact h
  | list=>exact h
 | _=>intro m h; exact hg _ (by intros; intro e; cases e) (by intros; intro e; cases e) (by intros; intro e; cases e) (by intros; intro e; cases e) _ h
omit [Gl] in
theorem zI {C C':Ctx}{v:V}{m:Ab.M}(hv:∀ l,m=.list l→False) (h:(∃ x:Value,x.oneCell'=true∧m.leaf x)):R C' .unk m:=by
 obtain⟨x,h1,h2⟩:=h
 cases m with
 | cel s g off=>obtain⟨rfl,h3⟩:=h2; exact⟨rfl,x,h3,h1⟩
 | val v=>trivial
 | list l=>exact (hv l rfl).elim
omit [Gl] in
theorem JI {x:Value}{m:Ab.M}(h:m.leaf x):∀ l,m=.list l→False:=by intro l e; subst e; exact h
omit [Gl] in
theorem zd1 {C:Ctx}{v:V}{m:Ab.M}(h:R C v m) (hv:(∃ id p s,v=.ptr id p s)∨(∃ id e n,v=.row id e n)∨(∃ id p e off len cap,v=.sl id p e off len cap)):∃ x:Value,x.oneCell'=true∧m.leaf x:=by
 rcases hv with ⟨id,p,s,rfl⟩ | ⟨id,e,n,rfl⟩ | ⟨id,p,e,off,len,cap,rfl⟩
 ·obtain⟨_,b,off,_,_,h3⟩:=h; exact⟨_,rfl,h3⟩
 ·obtain⟨_,⟨a,c,h1⟩,_,h3⟩:=h; exact⟨_,by rw[h1]; rfl,h3⟩
 ·obtain⟨_,ad,c,o,n,h3,_⟩:=h; exact⟨_,rfl,h3⟩
omit [Gl] in
theorem R.unk_name {C C':Ctx}{v:V}{m:Ab.M}(h:R C v m) (hv:(∃ id p s,v=.ptr id p s)∨(∃ id e n,v=.row id e n)∨(∃ id p e off len cap,v=.sl id p e off len cap)):R C' .unk m:=by
 obtain⟨x,h1,h2⟩:=zd1 h hv
 exact zI (C:=C) (v:=v) (JI h2) ⟨x,h1,h2⟩
omit [Gl] in
theorem R.unk_yld {C C':Ctx}{id:Nat}{m:Ab.M}(h:R C (.yld id) m):R C' .unk m:=by
 obtain⟨_,h1,h2⟩:=h
 exact zI (C:=C) (v:=.yld id) (JI h2) ⟨_,WY h1,h2⟩
omit [Gl] in
theorem XT {cap:Option Nat}{len:Nat}(h:wN cap len=true):cap=some len:=by
 unfold wN at h
 split at h
 ·rw[Nat.eq_of_beq_eq_true h]
 ·cases h
section
variable {B:Nat}{C:Ctx}{M:Mem}
theorem R.row_ro (hs:SR B C M) {id n:Nat}{e:Shape}{blk:Blk}{n1:Nat}{f:Nat→V}{g:V→V}{md:Ab.M}(hM:M id=some blk) (ha:blk.alive=true) (hv:blk.v=.arr n1 f)
  (hg:∀ i,i < n→∀ md,R C (f i) md→R (C.opened B) (g (f i)) md) (hr:R C (.row id e n) md):R (C.opened B) (.ro false false e n fun i=>g (f i)) md:=by
 obtain⟨hal,⟨a,c,h1⟩,h2,h3⟩:=hr
 have hbr:=hs.mem id blk hM
 unfold BR at hbr; unfold Blk.alive at ha
 cases hkd:blk.k<;>simp only[hkd] at hbr ha
 ·obtain⟨g,cur,e',h4,_⟩:=hbr; rw[h1] at h4; cases h4
 ·obtain⟨n2,s2,cells,h4,h5,h6,h7⟩:=hbr
  rw[h4,h5] at h2
  simp only[Shape.arr.injEq] at h2
  obtain⟨rfl,rfl⟩:=h2
  refine⟨a,c,by rw[←h1]; exact h3,?_,(by intro hc; cases hc),?_⟩
  ·rcases h6.2 with ⟨h8,h9⟩ | ⟨g,cap,cur,hv',hg,hh,hnc,_⟩
   ·rw[h1] at h8; cases h8; omega
   ·rw[h1] at hv'; cases hv'; exact hnc
  ·rcases h6.2 with ⟨h8,h9⟩ | ⟨q,cap,cur,hv',hq,hh,hnc,_,hcs,htake⟩
   ·exact .inl h9
   ·right
    rw[h1] at hv'
    simp only[Value.slice.injEq] at hv'
    obtain⟨rfl,_,rfl⟩:=hv'
    refine⟨q,0,rfl,.inr ⟨hq,(Array.getElem?_eq_some_iff.1 hh).1⟩,fun i hi=>?_⟩
    have hb':xg (C.sv id)=some q:=by rw[h1]; rfl
    have hpa:Shape.path [.idx i] (C.shp id)=some (0 + i * s2.size,s2):=by rw[h4,h5]; simp [Shape.path,Shape.step,hi]
    obtain⟨h10,_⟩:=BR.at (hs.mem id blk hM) (by unfold Blk.alive; rw[hkd]) hb' hpa
    rw[hv] at h10
    have h11:R C (f i) (.cel s2 (cg C.w q) (0 + i * s2.size)):=by simpa [V.path,V.step] using h10
    exact hg i hi _ h11
 ·simp at ha
 ·simp at ha
 ·simp at ha
theorem R.sl_ro (hs:SR B C M) {id off len:Nat}{p:List Step}{cap:Option Nat}{e:Shape}{blk:Blk}{n1:Nat}{f:Nat→V}{g:V→V}{md:Ab.M}(hM:M id=some blk) (ha:blk.alive=true) (hv:blk.v.path p=.arr n1 f)
  (hg:∀ i,i < len→∀ md,R C (f (off + i)) md→R (C.opened B) (g (f (off + i))) md) (hr:R C (.sl id p e off len cap) md):R (C.opened B) (.ro false (wN cap len) e len fun i=>g (f (off + i))) md:=by
 obtain⟨hal,ad,c,o1,n2,h3,h4,h5,h2,h8,h6⟩:=hr
 refine⟨ad,c,h3,h4,(fun hc=>h5 _ (XT hc)),h6.imp (fun h=>by omega) ?_⟩
 rintro⟨b,h1,h6⟩
 obtain⟨h7,_⟩:=BR.at (hs.mem id blk hM) ha h1 h2
 rw[hv] at h7
 obtain⟨e',q1,h9⟩:=h7
 simp only[Shape.arr.injEq] at q1
 obtain⟨rfl,rfl⟩:=q1
 refine⟨b,o1 + off * e.size,h6,.inr (hs.lt hM (Blk.lv ha) (vo h1)),fun i hi=>?_⟩
 have h10:R C (f (off + i)) (.cel e (cg C.w b) (o1 + off * e.size + i * e.size)):=by rw[Nat.add_assoc,←Nat.add_mul]; exact h9 (off + i) (by omega)
 exact hg i hi _ h10
theorem R.ptr_ref (hs:SR B C M) {id:Nat}{p:List Step}{s:Shape}{blk:Blk}{g:V→V}{md:Ab.M}(hM:M id=some blk) (ha:blk.alive=true)
  (hg:∀ md,R C (blk.v.path p) md→R (C.opened B) (g (blk.v.path p)) md) (hr:R C (.ptr id p s) md):R (C.opened B) (.ref false s (g (blk.v.path p))) md:=by
 obtain⟨hal,b,off,h1,h2,h3⟩:=hr
 obtain⟨h7,_⟩:=BR.at (hs.mem id blk hM) ha h1 h2
 have hlt:=hs.lt hM (Blk.lv ha) (vo h1)
 exact⟨b,off,h3,.inr hlt,hg _ h7⟩
theorem R.leafZ (hs:SR B C M) {m:Mem}(hm:Sub m M) {g:V→V}(hg:∀ v md,R C v md→R (C.opened B) (g v) md) (v:V) (h1:∀ a b,v≠.cons a b) (h2:∀ n f,v≠.arr n f) (h3:∀ f c,v≠.fn f c) (h4:∀ l,v≠.tup l) (md:Ab.M) (hr:R C v md):R (C.opened B) (Y.leafZ m g v) md:=by
 cases v with
 | ptr id p s =>
  simp only[Y.leafZ]
  cases hb:m id with
  | none=>exact R.unk_name hr (.inl ⟨_,_,_,rfl⟩)
  | some blk =>
   simp only
   split
   ·rename_i ha; exact R.ptr_ref hs (hm _ _ hb) ha (fun md h=>hg _ md h) hr
   ·exact R.unk_name hr (.inl ⟨_,_,_,rfl⟩)
 | row id e n =>
  simp only[Y.leafZ]
  cases hb:m id with
  | none=>exact R.unk_name hr (.inr (.inl ⟨_,_,_,rfl⟩))
  | some blk =>
   simp only
   split
   ·rename_i ha
    split
    ·rename_i n1 f hv; exact R.row_ro hs (hm _ _ hb) ha hv (fun i _ md h=>hg _ md h) hr
    ·exact R.unk_name hr (.inr (.inl ⟨_,_,_,rfl⟩))
   ·exact R.unk_name hr (.inr (.inl ⟨_,_,_,rfl⟩))
 | sl id p e off len cap =>
  simp only[Y.leafZ]
  cases hb:m id with
  | none=>exact R.unk_name hr (.inr (.inr ⟨_,_,_,_,_,_,rfl⟩))
  | some blk =>
   simp only
   split
   ·rename_i ha
    split
    ·rename_i n1 f hv; exact R.sl_ro hs (hm _ _ hb) ha hv (fun i _ md h=>hg _ md h) hr
    ·exact R.unk_name hr (.inr (.inr ⟨_,_,_,_,_,_,rfl⟩))
   ·exact R.unk_name hr (.inr (.inr ⟨_,_,_,_,_,_,rfl⟩))
 | cons a b=>exact absurd rfl (h1 _ _)
 | arr n f=>exact absurd rfl (h2 _ _)
 | fn f c=>exact absurd rfl (h3 _ _)
 | tup l=>exact absurd rfl (h4 _)
 | yld id=>exact R.unk_yld hr
 | _=>exact R.keep (Keep.opened C B) _ _ (R.pure_of _ rfl hr)
omit [Gl] in
theorem R.cutL (v:V) (h1:∀ a b,v≠.cons a b) (h2:∀ n f,v≠.arr n f) (h3:∀ f c,v≠.fn f c) (h4:∀ l,v≠.tup l) (md:Ab.M) (hr:R C v md):R (C.opened B) (Y.cutL v) md:=by
 cases v with
 | ptr id p s=>exact R.unk_name hr (.inl ⟨_,_,_,rfl⟩)
 | row id e n=>exact R.unk_name hr (.inr (.inl ⟨_,_,_,rfl⟩))
 | sl id p e off len cap=>exact R.unk_name hr (.inr (.inr ⟨_,_,_,_,_,_,rfl⟩))
 | cons a b=>exact absurd rfl (h1 _ _)
 | arr n f=>exact absurd rfl (h2 _ _)
 | fn f c=>exact absurd rfl (h3 _ _)
 | tup l=>exact absurd rfl (h4 _)
 | yld id=>exact R.unk_yld hr
 | _=>exact R.keep (Keep.opened C B) _ _ (R.pure_of _ rfl hr)
theorem R.frz (hs:SR B C M) {m:Mem}(hm:Sub m M):∀(k:Nat) (v:V) (md:Ab.M),R C v md→R (C.opened B) (Y.frz m k v) md
 | 0,v,md,h=>R.mapL (g:=Y.cutL) (C:=C) (C':=C.opened B) (fun b hb=>Or.inl hb) (fun _ _=>rfl) (fun v h1 h2 h3 h4 md hr=>R.cutL v h1 h2 h3 h4 md hr) v h
 | k + 1,v,md,h=>R.mapL (g:=Y.leafZ m (Y.frz m k)) (C:=C) (C':=C.opened B) (fun b hb=>Or.inl hb) (fun _ _=>rfl) (fun v h1 h2 h3 h4 md hr=>R.leafZ hs hm (fun v md hr=>R.frz hs hm k v md hr) v h1 h2 h3 h4 md hr) v h
theorem R.resM (hs:SR B C M) {m:Mem}(v:V):∀ {p:Bool}{v':V}{rd:List Nat}{md:Ab.M},Y.resM m v=some (p,v',rd)→p=true→(∀ id∈rd,M id=m id)→R C v md→R (C.opened B) v' md:=by
 have pure:∀ {v:V}{p:Bool}{v':V}{rd:List Nat}{md:Ab.M},(if xy v then some (true,v,([]:List Nat)) else none)=some (p,v',rd)→R C v md→R (C.opened B) v' md:=by
  intro v p v' rd md h hr
  split at h
  ·rename_i hn
   simp only[Option.some.injEq,Prod.mk.injEq] at h
   obtain⟨_,rfl,_⟩:=h
   exact R.keep (Keep.opened C B) _ _ (R.pure_of v hn hr)
  ·cases h
 have pg:∀ {f:Nat→V}{n:Nat}{o:Nat},(∀ i,i < n→xy (f (o + i))=true)→∀ i,i < n→∀ md,R C (f (o + i)) md→R (C.opened B) (id (f (o + i))) md:=fun hp i hi md h=>R.keep (Keep.opened C B) _ _ (R.pure_of _ (hp i hi) h)
 induction v with
 | row id e n =>
  intro p v' rd md h hp hrd hr
  simp only[Y.resM] at h
  split at h
  ·rename_i blk hb
   split at h
   ·rename_i ha
    split at h
    ·rename_i n1 f hv
     simp only[Option.some.injEq,Prod.mk.injEq] at h
     obtain⟨rfl,rfl,rfl⟩:=h
     exact R.row_ro (g:=fun v=>v) hs (by rw[hrd id (by simp)]; exact hb) ha hv (fun i hi md h=>R.keep (Keep.opened C B) _ _ (R.pure_of _ (List.all_eq_true.1 hp i (List.mem_range.2 hi)) h)) hr
    ·cases h
   ·cases h
  ·cases h
 | sl id q e off len cap =>
  intro p v' rd md h hp hrd hr
  simp only[Y.resM] at h
  split at h
  ·rename_i blk hb
   split at h
   ·rename_i ha
    split at h
    ·rename_i n1 f hv
     simp only[Option.some.injEq,Prod.mk.injEq] at h
     obtain⟨rfl,rfl,rfl⟩:=h
     exact R.sl_ro (g:=fun v=>v) hs (by rw[hrd id (by simp)]; exact hb) ha hv (fun i hi md h=>R.keep (Keep.opened C B) _ _ (R.pure_of _ (List.all_eq_true.1 hp i (List.mem_range.2 hi)) h)) hr
    ·cases h
   ·cases h
  ·cases h
 | ptr id q s =>
  intro p v' rd md h hp hrd hr
  simp only[Y.resM] at h
  split at h
  ·rename_i blk hb
   split at h
   ·rename_i ha
    simp only[Bool.and_eq_true] at ha
    simp only[Option.some.injEq,Prod.mk.injEq] at h
    obtain⟨rfl,rfl,rfl⟩:=h
    exact R.ptr_ref (g:=fun v=>v) hs (by rw[hrd id (by simp)]; exact hb) ha.1 (fun md h=>R.keep (Keep.opened C B) _ _ (R.pure_of _ ha.2 h)) hr
   ·cases h
  ·cases h
 | cons x t ih1 ih2 =>
  intro p v' rd md h hp hrd hr
  simp only[Y.resM] at h
  split at h
  ·rename_i p1 h1 r1 p2 t1 r2 e1 e2
   simp only[Option.some.injEq,Prod.mk.injEq] at h
   obtain⟨rfl,rfl,rfl⟩:=h
   rw[Bool.and_eq_true] at hp
   have hrd1:∀ id∈r1,M id=m id:=fun id hid=>hrd id (by simp [hid])
   have hrd2:∀ id∈r2,M id=m id:=fun id hid=>hrd id (by simp [hid])
   cases md with
   | cel s g off=>obtain⟨a,b,q1,q2,q3⟩:=hr; exact⟨a,b,q1,ih1 e1 hp.1 hrd1 q2,ih2 e2 hp.2 hrd2 q3⟩
   | val v=>obtain⟨cs,a,b,q1,q2,q3,q4⟩:=hr; exact⟨cs,a,b,q1,q2,ih1 e1 hp.1 hrd1 q3,ih2 e2 hp.2 hrd2 q4⟩
   | list l=>obtain⟨y,ys,q1,q2,q3⟩:=hr; exact⟨y,ys,q1,ih1 e1 hp.1 hrd1 q2,ih2 e2 hp.2 hrd2 q3⟩
  ·cases h
 | tup l ih =>
  intro p v' rd md h hp hrd hr
  simp only[Y.resM] at h
  split at h
  ·rename_i p1 l1 r1 e1
   simp only[Option.some.injEq,Prod.mk.injEq] at h
   obtain⟨rfl,rfl,rfl⟩:=h
   cases md with
   | val v=>obtain⟨cs,q1,q2⟩:=hr; exact⟨cs,q1,ih e1 hp hrd q2⟩
   | cel=>exact hr.elim
   | list=>exact hr.elim
  ·cases h
 | _=>intro p v' rd md h hp hrd hr; simp only[Y.resM] at h; exact pure h hr
omit [Gl] in
theorem R.resM0 {m:Mem}(v:V):∀ {p:Bool}{v':V}{rd:List Nat}{md:Ab.M},Y.resM m v=some (p,v',rd)→rd=[]→R C v md→R C.pur v' md:=by
 have pure:∀ {v:V}{p:Bool}{v':V}{rd:List Nat}{md:Ab.M},(if xy v then some (true,v,([]:List Nat)) else none)=some (p,v',rd)→R C v md→R C.pur v' md:=by
  intro v p v' rd md h hr
  split at h
  ·rename_i hn
   simp only[Option.some.injEq,Prod.mk.injEq] at h
   obtain⟨_,rfl,_⟩:=h
   exact R.pure_of v hn hr
  ·cases h
 induction v with
 | row id e n =>
  intro p v' rd md h hrd hr
  simp only[Y.resM] at h
  split at h
  ·split at h
   ·split at h
    ·simp only[Option.some.injEq,Prod.mk.injEq] at h
     rw[←h.2.2] at hrd; cases hrd
    ·cases h
   ·cases h
  ·cases h
 | sl id q e off len cap =>
  intro p v' rd md h hrd hr
  simp only[Y.resM] at h
  split at h
  ·split at h
   ·split at h
    ·simp only[Option.some.injEq,Prod.mk.injEq] at h
     rw[←h.2.2] at hrd; cases hrd
    ·cases h
   ·cases h
  ·cases h
 | ptr id q s =>
  intro p v' rd md h hrd hr
  simp only[Y.resM] at h
  split at h
  ·split at h
   ·simp only[Option.some.injEq,Prod.mk.injEq] at h
    rw[←h.2.2] at hrd; cases hrd
   ·cases h
  ·cases h
 | cons x t ih1 ih2 =>
  intro p v' rd md h hrd hr
  simp only[Y.resM] at h
  split at h
  ·rename_i p1 h1 r1 p2 t1 r2 e1 e2
   simp only[Option.some.injEq,Prod.mk.injEq] at h
   obtain⟨rfl,rfl,rfl⟩:=h
   obtain⟨hr1,hr2⟩:=List.append_eq_nil_iff.1 hrd
   cases md with
   | cel s g off=>obtain⟨a,b,q1,q2,q3⟩:=hr; exact⟨a,b,q1,ih1 e1 hr1 q2,ih2 e2 hr2 q3⟩
   | val v=>obtain⟨cs,a,b,q1,q2,q3,q4⟩:=hr; exact⟨cs,a,b,q1,q2,ih1 e1 hr1 q3,ih2 e2 hr2 q4⟩
   | list l=>obtain⟨y,ys,q1,q2,q3⟩:=hr; exact⟨y,ys,q1,ih1 e1 hr1 q2,ih2 e2 hr2 q3⟩
  ·cases h
 | tup l ih =>
  intro p v' rd md h hrd hr
  simp only[Y.resM] at h
  split at h
  ·rename_i p1 l1 r1 e1
   simp only[Option.some.injEq,Prod.mk.injEq] at h
   obtain⟨rfl,rfl,rfl⟩:=h
   cases md with
   | val v=>obtain⟨cs,q1,q2⟩:=hr; exact⟨cs,q1,ih e1 hrd q2⟩
   | cel=>exact hr.elim
   | list=>exact hr.elim
  ·cases h
 | _=>intro p v' rd md h hrd hr; simp only[Y.resM] at h; exact pure h hr
end
end
end Go.Y
namespace Go.Y
open Go.Ab Go.RowKit
noncomputable section
variable [Gl]
structure YR (B H:Nat) (C:Ctx) (M:Mem) (zm:Zm) (nx:Nat):Prop where
 sr:SR B C M
 sub:Sub (gm zm) M
 al:∀ id,nx≤id→id < H→¬ C.al id
structure YC (B H:Nat) (C:Ctx) (M:Mem) (zm:Zm) (nx:Nat) (C':Ctx) (M':Mem) (zm':Zm) (nx':Nat):Prop where
 kp:Kp B C C'
 al:∀ id,C'.al id→C.al id∨(nx≤id∧id < nx')
 fr:∀ id,(id < nx∨H≤id)→gm zm id=none→M' id=M id∧gm zm' id=none
omit [Gl] in
theorem YC.refl {B H:Nat}(C:Ctx) (M:Mem) (zm:Zm) (nx:Nat):YC B H C M zm nx C M zm nx:=⟨Kp.refl B C,fun _ h=>.inl h,fun _ _ h=>⟨rfl,h⟩⟩
omit [Gl] in
theorem YC.trans {B H:Nat}{C C' C'':Ctx}{M M' M'':Mem}{zm zm' zm'':Zm}{nx nx' nx'':Nat}(h:YC B H C M zm nx C' M' zm' nx') (k:YC B H C' M' zm' nx' C'' M'' zm'' nx'') (h1:nx≤nx') (h2:nx'≤nx''):YC B H C M zm nx C'' M'' zm'' nx'' :=
 ⟨h.kp.trans k.kp,fun id hid=>by
  rcases k.al id hid with h3 | h3
  ·rcases h.al id h3 with h4 | h4
   ·exact .inl h4
   ·exact .inr ⟨h4.1,by omega⟩
  ·exact .inr ⟨by omega,h3.2⟩,fun id hid hn=>by
  obtain⟨h3,h4⟩:=h.fr id hid hn
  obtain⟨h5,h6⟩:=k.fr id (by omega) h4
  exact⟨h5.trans h3,h6⟩⟩
def KB (zm:Zm) (nx:Nat):Prop:=∀ id,nx≤id→gm zm id=none
omit [Gl] in
theorem zeG (id:Nat):gm .e id=none:=wQ none _
omit [Gl] in
theorem zam {zm:Zm}{x:Option Blk}{i id:Nat}:gm (set x (enc i) zm) id=if id=i then x else gm zm id:=wt _ _ _ _ _
def upZ (l:List (Nat×Blk)) (zm:Zm):Zm:=l.foldr (fun x zm=>set (some x.2) (enc x.1) zm) zm
omit [Gl] in
theorem zeH:∀(l:List (Nat×Blk)) (zm:Zm) (K:Zm→Prop),upK l zm K=K (upZ l zm)
 | [],zm,K=>rfl
 | x::l,zm,K=>by
  show upK l zm (fun zm=>Zy x.2 fun b=>z7 b (enc x.1) zm K)=_
  rw[zeH l,JB,zQ]; rfl
def nwZ:List Blk→Zm→Nat→Zm
 | [],zm,_=>zm
 | b::l,zm,nx=>nwZ l (set (some b) (enc nx) zm) (nx + 1)
omit [Gl] in
theorem zeI:∀(l:List Blk) (zm:Zm) (nx:Nat) (K:Zm→Nat→Prop),nwK l zm nx K=K (nwZ l zm nx) (nx + l.length)
 | [],zm,nx,K=>rfl
 | b::l,zm,nx,K=>by
  show Zy b (fun b=>z7 b (enc nx) zm (fun zm=>zJ (Nat.succ nx) fun nx=>nwK l zm nx K))=_
  rw[JB,zQ,zP,zeI l]
  show K (nwZ l _ (nx + 1)) (nx + 1 + l.length)=K (nwZ l _ (nx + 1)) (nx + (l.length + 1))
  rw[Nat.add_assoc,Nat.add_comm 1]
omit [Gl] in
theorem zan (e:Eff) (zm:Zm) (nx:Nat) (K:KT):apK e zm nx K=K e.v (nwZ e.nw (upZ e.up zm) nx) (nx + e.nw.length) (e.up.map (·.1)) e.rd:=by
 unfold apK; rw[zeH,zeI]
omit [Gl] in
theorem zca {o:Op}{r:RS}{zm:Zm}{nx:Nat}{K:KT}(h:rsK o r zm nx K):∃ e,r.is e∧K e.v (nwZ e.nw (upZ e.up zm) nx) (nx + e.nw.length) (e.up.map (·.1)) e.rd:=by
 cases r with
 | bad=>exact h.elim
 | ok e=>have h:apK e zm nx K:=h; rw[zan] at h; exact⟨e,rfl,h⟩
 | tst c e =>
  obtain⟨h1,h⟩:=ze.1 (show cnd c (apK e zm nx K) from h)
  rw[zan] at h; exact⟨e,⟨h1,rfl⟩,h⟩
 | prv p e=>obtain⟨h1,h⟩:=(show p∧apK e zm nx K from h); rw[zan] at h; exact⟨e,⟨h1,rfl⟩,h⟩
omit [Gl] in
theorem zao (zm:Zm) (id:Nat):∀(l:List (Nat×Blk)),gm (upZ l zm) id=(match l.lookup id with | some b=>some b | none=>gm zm id)
 | []=>rfl
 | x::l=>by
  show gm (set (some x.2) (enc x.1) (upZ l zm)) id=_
  rw[zam]
  simp only[List.lookup]
  by_cases h:id=x.1
  ·subst h; simp
  ·have:(id==x.1)=false:=by simpa using h
   rw[if_neg h,this,zao zm id l]
omit [Gl] in
theorem zap (id:Nat):∀(l:List Blk) (zm:Zm) (nx:Nat),gm (nwZ l zm nx) id=if nx≤id∧id < nx + l.length then l[id - nx]? else gm zm id
 | [],zm,nx=>by rw[if_neg (by simp only[List.length_nil]; omega)]; rfl
 | b::l,zm,nx=>by
  show gm (nwZ l (set (some b) (enc nx) zm) (nx + 1)) id=_
  rw[zap id l,zam]
  by_cases h1:nx + 1≤id∧id < nx + 1 + l.length
  ·rw[if_pos h1,if_pos (by simp only[List.length_cons]; omega)]
   rw[show id - nx=(id - (nx + 1)) + 1 by omega]; rfl
  ·rw[if_neg h1]
   by_cases h2:id=nx
   ·subst h2; rw[if_pos rfl,if_pos (by simp)]; simp
   ·rw[if_neg h2,if_neg (by simp only[List.length_cons]; omega)]
omit [Gl] in
theorem ve {id:Nat}{b:Blk}:∀ {l:List (Nat×Blk)},l.lookup id=some b→∃ x∈l,x.1=id
 | [],h=>by cases h
 | x::l,h=>by
  simp only[List.lookup] at h
  cases hx:id==x.1 with
  | true=>exact⟨x,by simp,(by simpa using hx:id=x.1).symm⟩
  | false =>
   rw[hx] at h
   obtain⟨y,hy,e⟩:=ve h
   exact⟨y,by simp [hy],e⟩
structure YSt (P:Program) (B:Nat) (o:Oper) (tm:Tm) (zm zm':Zm) (nx nx':Nat) (v:V) (up rd:List Nat) (e:Eff):Prop where
 val:e.v=v
 nxt:nx'=nx + e.nw.length
 ups:e.up.map (·.1)=up
 rds:e.rd=rd
 upk:∀ x∈e.up,∃ b,gm zm x.1=some b
 kn:∀ id,(id < nx∨nx'≤id)→gm zm id=none→gm zm' id=none
 sem:∀ M,Sub (gm zm) M→OpSem P B o (ev Gl.G tm) M nx e
 sub:KB zm nx→∀ M,Sub (gm zm) M→Sub (gm zm') (put M nx e)
theorem OpSem.agree {P:Program}{B:Nat}{o:Oper}{ρ:Operand→V}{m m':Mem}{n:Nat}{e:Eff}(h:OpSem P B o ρ m n e) (hr:∀ id∈e.rd,m' id=m id) (hu:∀ x∈e.up,m' x.1=m x.1):OpSem P B o ρ m' n e :=
 fun C M ρc h1 h2 h3 h4 h5=>h C M ρc h1 (fun id hid=>(h2 id hid).trans (hr id hid)) (fun x hx=>(h3 x hx).trans (hu x hx)) h4 h5
section
variable {P:Program}{B:Nat}{o:Oper}{tm:Tm}{zm:Zm}{nx:Nat}
theorem YSt.of {e:Eff}(hs:OpSem P B o (ev Gl.G tm) (gm zm) nx e) (hu:UpIn (gm zm) e) :
  YSt P B o tm zm (nwZ e.nw (upZ e.up zm) nx) nx (nx + e.nw.length) e.v (e.up.map (·.1)) e.rd e:=by
 refine⟨rfl,rfl,rfl,rfl,hu.up,fun id hid hn=>?_,fun M hM=>OpSem.agree hs (fun id hid=>?_) (fun x hx=>?_),fun hkb M hM id b hb=>?_⟩
 ·rw[zap,if_neg (by omega),zao]
  cases hl:e.up.lookup id with
  | none=>exact hn
  | some b =>
   exfalso
   obtain⟨x,hx,rfl⟩:=ve hl
   obtain⟨c,hc⟩:=hu.up x hx
   rw[hn] at hc; cases hc
 ·obtain⟨b,hb⟩:=hu.rd id hid
  rw[hb,hM _ _ hb]
 ·obtain⟨b,hb⟩:=hu.up x hx
  rw[hb,hM _ _ hb]
 ·rw[zap] at hb
  unfold put zL
  by_cases h1:nx≤id∧id < nx + e.nw.length
  ·rw[if_pos h1] at hb ⊢
   rw[hb]
  ·rw[if_neg h1] at hb ⊢
   rw[zao] at hb
   cases hl:e.up.lookup id with
   | some c=>rw[hl] at hb; exact hb
   | none=>rw[hl] at hb; exact hM _ _ hb
end
def WL (P:Program) (B:Nat) (o:Oper) (tm:Tm) (zm:Zm) (nx:Nat) (v:V) (zm':Zm) (nx':Nat):Prop :=
 ∀(H:Nat) (C:Ctx) (M:Mem) (ρc:Operand→Value),nx'≤H→YR B H C M zm nx→(∀ x∈o.op.operands.toList,R C (ev Gl.G tm x) (.val (ρc x))) →
  Does P (execOp ρc o) C.w fun val w'=>∃ C' M',C'.w=w'∧R C' v (.val val)∧YR B H C' M' zm' nx'∧YC B H C M zm nx C' M' zm' nx'
theorem YSt.does {P:Program}{B:Nat}{o:Oper}{tm:Tm}{zm zm':Zm}{nx nx':Nat}{v:V}{up rd:List Nat}{e:Eff}(h:YSt P B o tm zm zm' nx nx' v up rd e) (hkb:KB zm nx):WL P B o tm zm nx v zm' nx':=by
 intro H C M ρc hH hr ho
 have hnx:=h.nxt
 refine Does.mono ?_ (h.sem M hr.sub C M ρc hr.sr (fun _ _=>rfl) (fun _ _=>rfl) (fun i hi=>hr.al _ (by omega) (by omega)) ho)
 rintro val w' ⟨C',hw,hR,hK,hS,hal⟩
 rw[h.val] at hR
 have hal':∀ id,C'.al id→C.al id∨(nx≤id∧id < nx'):=fun id hid=>by
  rcases hal id hid with h1 | h1
  ·exact .inl h1
  ·exact .inr ⟨h1.1,by omega⟩
 refine⟨C',_,hw,hR,⟨hS,h.sub hkb M hr.sub,fun id h1 h2 h3=>?_⟩,⟨hK,hal',fun id hid hn=>⟨?_,h.kn id (by omega) hn⟩⟩⟩
 ·rcases hal' id h3 with h4 | h4
  ·exact hr.al id (by omega) h2 h4
  ·omega
 ·have ht:zL e nx id=none:=by
   unfold zL
   rw[if_neg (by omega)]
   cases hl:e.up.lookup id with
   | none=>rfl
   | some b =>
    exfalso
    obtain⟨x,hx,e1⟩:=ve hl
    obtain⟨b',hb'⟩:=h.upk x hx
    rw[e1,hn] at hb'; cases hb'
  simp only[put,ht]
theorem YSt.kb {P:Program}{B:Nat}{o:Oper}{tm:Tm}{zm zm':Zm}{nx nx':Nat}{v:V}{up rd:List Nat}{e:Eff}(h:YSt P B o tm zm zm' nx nx' v up rd e) (hk:KB zm nx):KB zm' nx' :=
 fun id hid=>h.kn id (.inr hid) (hk id (by have:=h.nxt; omega))
structure YT (C:Ctx) (tm:Tm) (a:Act) (N:Nat):Prop where
 tv:∀ t,R C (tv tm t) (.val (a.tmps.getD t undef))
 size:a.tmps.size=N
 defers:a.defers=[]
omit [Gl] in
theorem YT.keep {C C':Ctx}{tm:Tm}{a:Act}{N:Nat}(h:YT C tm a N) (hk:Keep C C'):YT C' tm a N:=⟨fun t=>R.keep hk _ _ (h.tv t),h.size,h.defers⟩
def zaq (d:Option Tmp) (v:V) (tm:Tm):Tm:=match d with | some d=>set v (enc d) tm | none=>tm
omit [Gl] in
theorem Xn (d:Option Tmp) (v:V) (tm:Tm) (f:Tm→Prop):Qm d v tm f=f (zaq d v tm):=by
 cases d with
 | none=>rfl
 | some d=>exact (JA v fun v=>z7 v (enc d) tm f).trans (zQ v (enc d) tm f)
omit [Gl] in
theorem w8 {tm:Tm}{v:V}{t d:Nat}:tv (set v (enc d) tm) t=if t=d then v else tv tm t:=wt _ _ _ _ _
omit [Gl] in
theorem YT.put {C:Ctx}{tm:Tm}{a:Act}{N:Nat}(h:YT C tm a N) {d:Option Tmp}{v:V}{val:Value}(hd:dOk N d=true) (hr:R C v (.val val)):YT C (zaq d v tm) (a.put d val) N:=by
 cases d with
 | none=>exact⟨h.tv,h.size,h.defers⟩
 | some d =>
  have hd':d < N:=by simpa [dOk] using hd
  refine⟨fun t=>?_,?_,h.defers⟩
  ·rw[XI h.size hd']
   by_cases hdt:d=t
   ·subst hdt
    rw[if_pos rfl]
    simp only[zaq,w8,if_true]; exact hr
   ·rw[if_neg hdt]
    simp only[zaq,w8,if_neg (fun e:t=d=>hdt e.symm)]; exact h.tv t
  ·rw[←h.size]; simp [Act.put]
theorem YT.operand {C:Ctx}{tm:Tm}{a:Act}{N:Nat}(h:YT C tm a N) (hg:∀ g,R C (Gl.G g) (.val (.pointer (some ⟨g,0,none⟩)))) (x:Operand):R C (ev Gl.G tm x) (.val (a.eval x)):=by
 cases x with
 | tmp t=>exact h.tv t
 | const v=>exact R.ofVal C v
 | global g=>exact hg g
 | func f=>exact R.fnop f
omit [Gl] in
theorem zi7 {P:Program}{ops:Array Oper}{Q:Exit→Act→World→Prop}{i:Nat}{K:Act→World→Prop}{a:Act}{w:World}{o:Oper}(hop:ops[i]?=some o) (hw:Region.wanted o (yielded ops a.tmps)=true) (h:o.wp P a w K Q):wpOp P ops Q i K a w:=by
 unfold wpOp; simp only[hop]; rw[if_pos hw]; exact .inl h
omit [Gl] in
theorem zdV {P:Program}{ops:Array Oper}{Q:Exit→Act→World→Prop}{i:Nat}{K:Act→World→Prop}{a:Act}{w:World}{o:Oper}(hop:ops[i]?=some o) (hw:Region.wanted o (yielded ops a.tmps)=false) (h:K (a.put o.dst undef) w):wpOp P ops Q i K a w:=by
 unfold wpOp; simp only[hop]; rw[if_neg (by rw[hw]; simp)]; exact h
omit [Gl] in
theorem WM (ops:Array Oper) (j:Nat):WW ops.toList j=(ops[j]?).bind (·.dst):=by
 unfold WW; rw[Array.getElem?_toList]
def Same (tm tm1:Tm):Prop:=∀ t,tv tm1 t=tv tm t
omit [Gl] in
theorem Same.refl (tm:Tm):Same tm tm:=fun _=>rfl
omit [Gl] in
theorem Same.set {tm:Tm}{d:Nat}{b:Bool}(h:tv tm d=.bool b):Same tm (set (.bool b) (enc d) tm):=fun t=>by
 rw[w8]; split
 ·rename_i he; subst he; exact h.symm
 ·rfl
omit [Gl] in
theorem YT.same {C:Ctx}{tm tm1:Tm}{a:Act}{N:Nat}(h:YT C tm a N) (hs:Same tm tm1):YT C tm1 a N:=⟨fun t=>by rw[hs t]; exact h.tv t,h.size,h.defers⟩
omit [Gl] in
theorem zcb {b:Bool}{t:Nat}{tm:Tm}{f:Bool→Tm→Prop}(ht:tv tm t=.bool b) (h:two b t tm f):∃ tm1,Same tm tm1∧f b tm1:=by
 unfold two at h
 cases b with
 | true=>have h1:z7 (.bool true) (enc t) tm (f true):=h; rw[zQ] at h1; exact⟨_,Same.set ht,h1⟩
 | false=>have h1:z7 (.bool false) (enc t) tm (f false):=h; rw[zQ] at h1; exact⟨_,Same.set ht,h1⟩
omit [Gl] in
theorem zeJ {want:Bool}{d:Nat}{tm:Tm}{y n:Tm→Prop}(h:zni (tv tm d) want d tm y n) :
  (tv tm d=.bool want∧∃ tm1,Same tm tm1∧y tm1)∨((tv tm d=.bool (!want)∨tv tm d=.tup .nl)∧∃ tm1,Same tm tm1∧n tm1):=by
 unfold zni at h
 split at h
 ·rename_i b hb
  obtain⟨tm1,hs,h1⟩:=zcb hb h
  cases b<;>cases want
  ·exact .inl ⟨hb,tm1,hs,h1⟩
  ·exact .inr ⟨.inl hb,tm1,hs,h1⟩
  ·exact .inr ⟨.inl hb,tm1,hs,h1⟩
  ·exact .inl ⟨hb,tm1,hs,h1⟩
 ·rename_i hb; exact .inr ⟨.inr hb,tm,Same.refl tm,h⟩
 ·exact h.elim
theorem Js {tm:Tm}{c:Operand}{f:Bool→Tm→Prop}(h:zcg Gl.G tm c f):∃ b tm1,ev Gl.G tm c=.bool b∧Same tm tm1∧f b tm1:=by
 have key:∀ c,(match ev Gl.G tm c with | .bool b=>alt b (f true tm) (f false tm) | _=>BadN 3)→∃ b tm1,ev Gl.G tm c=.bool b∧Same tm tm1∧f b tm1:=by
  intro c h
  split at h
  ·rename_i b hb
   cases b with
   | true=>exact⟨true,tm,hb,Same.refl tm,h⟩
   | false=>exact⟨false,tm,hb,Same.refl tm,h⟩
  ·exact h.elim
 cases c with
 | tmp t =>
  have h1:(match tv tm t with | .bool b=>two b t tm f | _=>BadN 2):=h
  split at h1
  ·rename_i b hb
   obtain⟨tm1,hs,h2⟩:=zcb hb h1
   exact⟨b,tm1,hb,hs,h2⟩
  ·exact h1.elim
 | const v=>exact key _ h
 | global g=>exact key _ h
 | func g=>exact key _ h
omit [Gl] in
theorem Jt {tm:Tm}{ops:Array Oper}{o:Oper}{y n:Tm→Prop}(hg:zdW ops.toList o.guard tm y n) :
  ((∀ C a N,YT C tm a N→Region.wanted o (yielded ops a.tmps)=true)∧(∀ tmv:Nat→V,(∀ t,tmv t=tv tm t)→jo ops tmv o false)∧∃ tm1,Same tm tm1∧y tm1) ∨
  ((∀ C a N,YT C tm a N→Region.wanted o (yielded ops a.tmps)=false)∧(∀ tmv:Nat→V,(∀ t,tmv t=tv tm t)→jo ops tmv o true)∧∃ tm1,Same tm tm1∧n tm1):=by
 cases hgd:o.guard with
 | none =>
  rw[hgd] at hg
  exact .inl ⟨fun C a N _=>by simp [Region.wanted,hgd],fun tmv _=>by unfold jo; rw[hgd],tm,Same.refl tm,hg⟩
 | some jw =>
  obtain⟨j,want⟩:=jw
  rw[hgd] at hg
  unfold zdW at hg
  simp only[WM] at hg
  cases hd:(ops[j]?).bind (·.dst) with
  | none=>rw[hd] at hg; exact hg.elim
  | some d =>
   rw[hd] at hg
   have rd:∀ {C a N} {b:Bool},YT C tm a N→tv tm d=.bool b→a.tmps[d]?=some (.bool b):=by
    intro C a N b ht hx
    have hr:=ht.tv d
    rw[hx] at hr
    have hval:a.tmps.getD d undef=.bool b:=hr
    rw[Array.getD_eq_getD_getElem?] at hval
    cases hx:a.tmps[d]? with
    | none=>rw[hx] at hval; simp [undef] at hval
    | some y=>rw[hx] at hval; simpa using hval
   rcases zeJ hg with ⟨hx,hy⟩ | ⟨hx,hn⟩
   ·refine .inl ⟨fun C a N ht=>by simp [Region.wanted,hgd,yielded,hd,rd ht hx],fun tmv ht=>?_,hy⟩
    unfold jo; rw[hgd]
    exact⟨d,hd,.inl ⟨by rw[ht,hx],rfl⟩⟩
   ·refine .inr ⟨fun C a N ht=>?_,fun tmv ht=>?_,hn⟩
    ·rcases hx with hx | hx
     ·cases want<;>simp [Region.wanted,hgd,yielded,hd,rd ht hx]
     ·have hr:=ht.tv d
      rw[hx] at hr
      obtain⟨cs,h2,h3⟩:=hr
      have h3':cs.toList=[]:=h3
      have hval:a.tmps.getD d undef=.tuple #[]:=by rw[h2]; congr; simpa using h3'
      rw[Array.getD_eq_getD_getElem?] at hval
      cases hx:a.tmps[d]? with
      | none=>simp [Region.wanted,hgd,yielded,hd,hx]
      | some y=>rw[hx] at hval; simp only[Option.getD_some] at hval; subst hval; simp [Region.wanted,hgd,yielded,hd,hx]
    ·unfold jo; rw[hgd]
     refine⟨d,hd,.inr ⟨?_,rfl⟩⟩
     rcases hx with hx | hx
     ·exact .inl (by rw[ht,hx])
     ·exact .inr (by rw[ht,hx])
section
variable {P:Program}{B H:Nat}{C:Ctx}{M:Mem}{tm:Tm}{zm:Zm}{nx:Nat}{a:Act}{N:Nat}
theorem zcc (hz:YR B H C M zm nx) (ht:YT C tm a N) {r:ResultVar}{v:V}(h:rvO P tm zm r=some v):∃ val,(rdV a r).run P C.w=.ok val C.w∧R C v (.val val):=by
 cases r with
 | tmp t=>cases h; exact⟨_,rfl,ht.tv t⟩
 | cell p t =>
  simp only[rvO] at h
  split at h
  ·rename_i s d hs hd
   split at h
   ·rename_i id q s' hp
    split at h
    ·rename_i blk hb
     split at h
     ·rename_i hc
      simp only[Bool.and_eq_true] at hc
      obtain rfl:=Shape.eq_of_beq hc.2
      cases h
      have hr:=ht.tv p
      rw[hp] at hr
      obtain⟨hal',g,off,h5,h6,h7⟩:=hr
      have h7':a.tmps.getD p undef=.pointer (some ⟨g,off,none⟩):=h7
      obtain⟨h8,_⟩:=BR.at (hz.sr.mem _ _ (hz.sub _ _ hb)) hc.1 h5 h6
      obtain⟨val,h9,h10⟩:=xS hs hd h8
      exact⟨val,by simp only[rdV,h7']; simpa [asAddr] using h9,h10⟩
     ·cases h
    ·cases h
   ·cases h
  ·cases h
theorem WN (hz:YR B H C M zm nx) (ht:YT C tm a N):∀ {l:List ResultVar}{v:V},rvL P tm zm l=some v→∃ xs,(l.mapM (rdV a)).run P C.w=.ok xs C.w∧R C v (.list xs)∧xs.length=l.length
 | [],v,h=>by cases h; exact⟨[],rfl,rfl,rfl⟩
 | r::l,v,h=>by
  simp only[rvL] at h
  split at h
  ·rename_i v1 v2 h1 h2
   cases h
   obtain⟨x,e1,r1⟩:=zcc hz ht h1
   obtain⟨xs,e2,r2,hl⟩:=WN hz ht h2
   refine⟨x::xs,?_,⟨x,xs,rfl,r1,r2⟩,by simp [hl]⟩
   rw[List.mapM_cons,Sem.run_bind,e1,Result.andThen_ok,Sem.run_bind,e2,Result.andThen_ok,Sem.run_pure]
  ·cases h
theorem zcd (hz:YR B H C M zm nx) (ht:YT C tm a N) {fn:Func}{v:V}(h:rvA P tm zm fn.results.toList=some v):∃ val,(results fn a.tmps).run P C.w=.ok val C.w∧R C v (.val val):=by
 have key:∀ {w:V},rvL P tm zm fn.results.toList=some w→∃ xs:List Value,(fn.results.mapM (rdV a)).run P C.w=.ok xs.toArray C.w∧R C w (.list xs)∧xs.length=fn.results.toList.length:=by
  intro w hw
  obtain⟨xs,h1,h2,h3⟩:=WN hz ht hw
  refine⟨xs,?_,h2,h3⟩
  have:fn.results=fn.results.toList.toArray:=by simp
  rw[this,List.mapM_toArray,map_eq_pure_bind,Sem.run_bind,h1]; rfl
 unfold rvA at h
 split at h
 ·rename_i r hr
  obtain⟨xs,h1,h2,h3⟩:=key (w:=.cons v .nl) (by rw[hr]; simp [rvL,h])
  obtain⟨x,xs',rfl,h4,h5⟩:=h2
  rw[hr] at h3
  have h6:xs'=[]:=by simpa using h3
  subst h6
  refine⟨x,?_,h4⟩
  rw[jE,Sem.run_bind,h1]; rfl
 ·rename_i hne
  cases hl:rvL P tm zm fn.results.toList with
  | none=>rw[hl] at h; cases h
  | some w =>
   rw[hl] at h
   simp only[Option.map_some,Option.some.injEq] at h
   subst h
   obtain⟨xs,h1,h2,h3⟩:=key hl
   refine⟨.tuple xs.toArray,?_,xs.toArray,rfl,by simpa using h2⟩
   rw[jE,Sem.run_bind,h1]
   have h4:¬ xs.toArray.size=1:=by
    intro h5
    simp only[List.size_toArray] at h5
    rw[h5] at h3
    match hm:fn.results.toList,h3 with
    | [r],_=>exact hne r hm
    | [],h3=>simp at h3
    | _::_::_,h3=>simp at h3
   rw[Result.andThen_ok,dif_neg h4,Sem.run_pure]
def Ju:List V→Nat→Tm→Tm
 | [],_,t=>t
 | x::l,i,t=>Ju l (i + 1) (set x (enc i) t)
omit [Gl] in
theorem WO:∀(l:List V) (i:Nat) (t:Tm) (K:Tm→Prop),zeQ l i t K=K (Ju l i t)
 | [],i,t,K=>rfl
 | x::l,i,t,K=>by
  show z7 x (enc i) t (fun t=>zeQ l (Nat.succ i) t K)=_
  rw[zQ,WO l]; rfl
omit [Gl] in
theorem Zu:∀(l:List V) (i:Nat) (t:Tm) (q:Nat),tv (Ju l i t) q=if i≤q∧q < i + l.length then l.getD (q - i) .unk else tv t q
 | [],i,t,q=>by rw[if_neg (by simp only[List.length_nil]; omega)]; rfl
 | x::l,i,t,q=>by
  rw[show Ju (x::l) i t=Ju l (i + 1) (set x (enc i) t) from rfl,Zu l,w8]
  by_cases h1:i + 1≤q∧q < i + 1 + l.length
  ·rw[if_pos h1,if_pos (by simp only[List.length_cons]; omega)]
   rw[show q - i=(q - (i + 1)) + 1 by omega]; rfl
  ·rw[if_neg h1]
   by_cases h2:q=i
   ·subst h2; rw[if_pos rfl,if_pos (by simp)]; simp
   ·rw[if_neg h2,if_neg (by simp only[List.length_cons]; omega)]
omit [Gl] in
theorem jU:∀ {l:List V}{vs:List Value},R C (mkL l) (.list vs)→l.length=vs.length∧∀ i,i < l.length→R C (l.getD i .unk) (.val (vs.getD i undef))
 | [],vs,h=>by obtain rfl:vs=[]:=h; exact⟨rfl,fun i hi=>by simp at hi⟩
 | x::l,vs,h=>by
  obtain⟨v,vs',rfl,h1,h2⟩:=h
  obtain⟨h3,h4⟩:=jU (l:=l) h2
  refine⟨by simp [h3],fun i hi=>?_⟩
  cases i with
  | zero=>exact h1
  | succ i=>exact h4 i (by simpa using hi)
omit [Gl] in
theorem yG:∀ {l r:List V}{vs ws:List Value},R C (mkL l) (.list vs)→R C (mkL r) (.list ws)→R C (mkL (l++r)) (.list (vs++ws))
 | [],r,vs,ws,h1,h2=>by obtain rfl:vs=[]:=h1; exact h2
 | x::l,r,vs,ws,h1,h2=>by
  obtain⟨v,vs',rfl,h3,h4⟩:=h1
  exact⟨v,vs'++ws,rfl,h3,yG h4 h2⟩
omit [Gl] in
theorem YT.enter {l:List V}{vs:List Value}(h:R C (mkL l) (.list vs)) (n:Nat) :
  YT C (Ju l 0 .e) { tmps:=vs.toArray++Array.replicate (n - vs.toArray.size) undef,defers:=[] } (vs.length + (n - vs.length)):=by
 obtain⟨h1,h2⟩:=jU h
 refine⟨fun t=>?_,by simp,rfl⟩
 rw[Zu]
 by_cases ht:t < l.length
 ·rw[if_pos (by omega)]
  have h3:(vs.toArray++Array.replicate (n - vs.toArray.size) undef).getD t undef=vs.getD t undef:=by
   rw[Array.getD_eq_getD_getElem?,Array.getElem?_append_left (by simpa [←h1] using ht)]
   simp
  rw[h3]
  exact h2 t ht
 ·rw[if_neg (by omega)]
  show R C (get .unk (enc t) .e) _
  rw[wQ]; trivial
end
end
end Go.Y
namespace Go.Y
open Go.Ab Go.RowKit
noncomputable section
variable [Gl]
def xi (P:Program) (f:FuncId) (c:CSpec):Prop :=
 (∃ fn,P.funcs[f]?=some fn∧(fn.name == "runtime.NumGoroutine")=false∧fn.body.isNone=false) ∧
 ∀(C:Ctx) (args:List V) (vals:List Value),(∀ u b,C.ok u b→b < C.w.heap.size)→(∀ g,R C.pur (Gl.G g) (.val (.pointer (some ⟨g,0,none⟩))))→R C.pur (mkL args) (.list vals)→c.pre args →
  Calls P f vals.toArray C.w fun e w'=>Below C.w.heap.size C.w w'∧∃ r,e=.returned r ∧
   R { C.pur with w:=w',ok:=fun u b=>(c.fresh=false∧∃ u',C.ok u' b)∨(C.w.heap.size≤b∧b < w'.heap.size) } (c.res args) (.val r)
def CTG (P:Program) (ct:yf):Prop:=∀ f c,ct f=some c→xi P f c
omit [Gl] in
theorem xJ {N M:Nat}(h:N≤M):∀ {c:Code},cOk N c=true→cOk M c=true:=by
 have hd:∀ d,dOk N d=true→dOk M d=true:=by
  intro d hd
  cases d with
  | none=>rfl
  | some d=>simp only[dOk,decide_eq_true_eq] at hd ⊢; exact Nat.lt_of_lt_of_le hd h
 intro c
 induction c with
 | region id ops draw=>intro hc; simp only[cOk,List.all_eq_true] at hc ⊢; exact fun o ho=>hd _ (hc o ho)
 | seq a b ih1 ih2=>intro hc; simp only[cOk,Bool.and_eq_true] at hc ⊢; exact⟨ih1 hc.1,ih2 hc.2⟩
 | cond t a b ih1 ih2=>intro hc; simp only[cOk,Bool.and_eq_true] at hc ⊢; exact⟨ih1 hc.1,ih2 hc.2⟩
 | block id c ih=>intro hc; exact ih hc
 | loop c ih=>intro hc; exact ih hc
 | scope c ih=>intro hc; exact ih hc
 | rangeFunc f ps a b ih1 ih2 =>
  intro hc
  simp only[cOk,Bool.and_eq_true,List.all_eq_true,decide_eq_true_eq] at hc ⊢
  exact⟨fun p hp=>Nat.lt_of_lt_of_le (hc.1 p hp) h,ih1 hc.2.1,ih2 hc.2.2⟩
 | _=>intro _; rfl
def zsd (f:Func):Bool:=!(f.name == "runtime.NumGoroutine")&&(match f.body with | some c=>cOk f.ntmps c | none=>true)
def FnsOk (P:Program):Prop:=P.funcs.toList.all zsd=true
omit [Gl] in
theorem FnsOk.get {P:Program}(h:FnsOk P) {f:Nat}{fn:Func}(hf:P.funcs[f]?=some fn):(fn.name == "runtime.NumGoroutine")=false∧∀ c,fn.body=some c→cOk fn.ntmps c=true:=by
 have h2:=List.all_eq_true.1 h fn (by
  obtain⟨hlt,he⟩:=Array.getElem?_eq_some_iff.1 hf
  rw[←he]
  exact Array.getElem_mem_toList hlt)
 simp only[zsd,Bool.and_eq_true,Bool.not_eq_true'] at h2
 refine⟨h2.1,fun c hc=>?_⟩
 have h3:=h2.2
 rw[hc] at h3
 exact h3
structure Env (P:Program) (ct:yf):Prop where
 fns:FnsOk P
 ct:CTG P ct
 gn:∀ g,xy (Gl.G g)=true
 gb:∀ g,borrow (Gl.G g)=Gl.G g
 mixed:P.follows .mixedOrders=true
structure YF (B H:Nat) (C:Ctx) (M:Mem) (zm:Zm) (nx:Nat) (N:Nat) (tm':Tm) (zm':Zm) (nx':Nat) (C':Ctx) (M':Mem) (a':Act):Prop where
 yr:YR B H C' M' zm' nx'
 yt:YT C' tm' a' N
 yc:YC B H C M zm nx C' M' zm' nx'
def zi4 (B H:Nat) (C:Ctx) (M:Mem) (zm:Zm) (nx:Nat) (N:Nat) (e:Exit) (tm':Tm) (zm':Zm) (nx':Nat) (e':Exit) (a':Act) (w':World):Prop :=
 e'=e∧∃ C' M',C'.w=w'∧YF B H C M zm nx N tm' zm' nx' C' M' a'
def VW (P:Program) (B:Nat) (c:Code) (tm:Tm) (zm:Zm) (nx:Nat) (N:Nat) (e:Exit) (tm':Tm) (zm':Zm) (nx':Nat):Prop :=
 ∀(H:Nat) (C:Ctx) (M:Mem) (a:Act),nx'≤H→YR B H C M zm nx→YT C tm a N→c.wp P (zi4 B H C M zm nx N e tm' zm' nx') a C.w
def wM (P:Program) (B:Nat) (r:RUN):Prop :=
 ∀(c:Code) (tm:Tm) (zm:Zm) (nx:Nat) (K:K3) (N:Nat),r c tm zm nx K→cOk N c=true→KB zm nx →
  ∃ e tm' zm' nx',K e tm' zm' nx'∧KB zm' nx'∧nx≤nx'∧VW P B c tm zm nx N e tm' zm' nx'
def zlm (P:Program) (B:Nat) (fid:FuncId) (l:List V) (zm:Zm) (nx:Nat) (v:V) (zm':Zm) (nx':Nat):Prop :=
 ∀(H:Nat) (C:Ctx) (M:Mem) (vals:List Value),nx'≤H→YR B H C M zm nx→R C (mkL l) (.list vals) →
  Calls P fid vals.toArray C.w fun e w'=>∃ val,e=.returned val∧∃ C' M',C'.w=w'∧R C' v (.val val)∧YR B H C' M' zm' nx'∧YC B H C M zm nx C' M' zm' nx'
section
variable {P:Program}{ct:yf}{B:Nat}{r:RUN}
omit [Gl] in
theorem zdS {v:Option V}{K:V→Prop}(h:zch v K):∃ x,v=some x∧K x:=by
 cases v with
 | none=>exact h.elim
 | some x=>exact⟨x,rfl,h⟩
theorem zdT (hr:wM P B r) (hE:Env P ct) {fid:FuncId}{l:List V}{zm:Zm}{nx:Nat}{K:V→Zm→Nat→Prop}(h:qt r P fid l zm nx K) (hkb:KB zm nx) :
  ∃ fn,P.funcs[fid]?=some fn∧(fn.name == "runtime.NumGoroutine")=false∧fn.body.isNone=false∧∃ v zm' nx',K v zm' nx'∧KB zm' nx'∧nx≤nx'∧zlm P B fid l zm nx v zm' nx':=by
 unfold qt at h
 split at h
 ·rename_i fn hfn
  split at h
  ·rename_i c hb
   obtain⟨hname,hcode⟩:=hE.fns.get hfn
   rw[WO] at h
   have hco:cOk (l.length + (fn.ntmps - l.length)) c=true:=xJ (by omega) (hcode c hb)
   obtain⟨e,tm',zm',nx',h10,hkb',hle,hrun⟩:=hr c _ zm nx _ _ h hco hkb
   have fin:(e=.normal∨e=.ret)→zch (rvA P tm' zm' fn.results.toList) (fun v=>K v zm' nx')→∃ v zm' nx',K v zm' nx'∧KB zm' nx'∧nx≤nx'∧zlm P B fid l zm nx v zm' nx':=by
    intro he hres
    obtain⟨v,hv,hk⟩:=zdS hres
    refine⟨v,zm',nx',hk,hkb',hle,fun H C M vals hH hz h6=>?_⟩
    have hent:=YT.enter h6 fn.ntmps
    rw[←(jU h6).1] at hent
    refine calls_of_wp hfn hb (wp_mono (hrun H C M _ hH hz hent) ?_)
    rintro e' a w' ⟨rfl,C',M',rfl,hf⟩
    obtain⟨val,q1,q2⟩:=zcd hf.yr hf.yt hv
    have q:a.defers=[]∧∃ v',(results fn a.tmps).run P C'.w=.ok v' C'.w∧(∃ val',Ending.returned v'=.returned val'∧∃ C'' M'',C''.w=C'.w∧R C'' v (.val val')∧YR B H C'' M'' zm' nx'∧YC B H C M zm nx C'' M'' zm' nx') :=
     ⟨hf.yt.defers,val,q1,val,rfl,C',M',rfl,q2,hf.yr,hf.yc⟩
    rcases he with rfl | rfl
    ·exact q
    ·exact q
   refine⟨fn,hfn,hname,by rw[hb]; rfl,?_⟩
   cases e with
   | normal=>exact fin (.inl rfl) h10
   | ret=>exact fin (.inr rfl) h10
   | _=>exact h10.elim
  ·exact h.elim
 ·exact h.elim
omit [Gl] in
theorem Zt {o:Oper}{f:Operand}{args:Array Operand}{ts:Array TypeId}{ρc:Operand→Value}{fid:FuncId}{cs:Array Value}{fn:Func}{w:World}(ho:o.op=.call ⟨.value f,args,ts⟩) (h1:ρc f=.func (.func fid) #[] cs) (hfn:P.funcs[fid]?=some fn)
  (hname:(fn.name == "runtime.NumGoroutine")=false) (hbody:fn.body.isNone=false):(execOp ρc o).run P w=.ok (.enter fid (args.toList.map ρc++cs.toList).toArray) w:=by
 simp only[execOp,ho,resolve,h1,Deferred.ofValue,Sem.run_bind,Sem.run_pure,Result.andThen_ok,invoke,callFunc,run_program,hfn,hname,hbody,Bool.false_eq_true,if_false]
 simp
omit [Gl] in
theorem WI {C:Ctx}{v:V}{vs:List Value}(h:R C v (.list vs)):R C (mkL (unL v)) (.list vs):=R.unL v h
omit [Gl] in
theorem zb7 (l:List V) {caps:V}{C:Ctx}{vs cs:List Value}(h1:R C (mkL l) (.list vs)) (h2:R C caps (.list cs)):R C (appL l caps) (.list (vs++cs)):=R.appL h2 h1
omit [Gl] in
theorem jT {o:Oper}{f:Operand}{args:Array Operand}{ts:Array TypeId}{ρ:Operand→V}{ρc:Operand→Value}{C:Ctx}(ho:o.op=.call ⟨.value f,args,ts⟩) (hx:∀ x∈o.op.operands.toList,R C (ρ x) (.val (ρc x))):R C (ρ f) (.val (ρc f))∧R C (mkL (args.toList.map ρ)) (.list (args.toList.map ρc)) :=
 ⟨hx f (by simp [ho,Op.operands,Call.operands]),R.mkL (C:=C) (ρ:=ρ) (ρc:=ρc) args.toList fun x hxx=>hx x (by simp [ho,Op.operands,Call.operands]; exact .inr (by simpa using hxx))⟩
theorem XG {C:Ctx}{M:Mem}{c:CSpec}{fid:FuncId}{s:Sem Next}{vals:List Value}{l:V}(hs:SR B C M) (hGn:∀ g,xy (Gl.G g)=true) (hc:xi P fid c)
  (hrun:s.run P C.w=.ok (.enter fid vals.toArray) C.w) (hl:(c.fresh=true∧R (C.opened B) l (.list vals))∨R C.pur l (.list vals)) (hp:c.pre (unL l)) :
  Does P s C.w fun val w'=>∃ C',C'.w=w'∧R C' (jY c l) (.val val)∧Kp B C C'∧SR B C' M∧(∀ id,C'.al id→C.al id):=by
 let ok':World→Bool→Nat→Prop:=fun w' u b=>(C.ok u b∨(u=true∧C.ok false b))∨(C.w.heap.size≤b∧b < w'.heap.size)
 unfold Does
 rw[hrun]
 have fin:∀(e':Ending) (w':World) (r:Value) (D:Ctx),Below C.w.heap.size C.w w'→e'=.returned r→(c.fresh=true∨∀ u b,D.ok u b→C.ok u b) →
   R { D.pur with w:=w',ok:=fun u b=>(c.fresh=false∧∃ u',D.ok u' b)∨(C.w.heap.size≤b∧b < w'.heap.size) } (c.res (unL l)) (.val r) →
   ∃ v,e'=.returned v∧∃ C',C'.w=w'∧R C' (jY c l) (.val v)∧Kp B C C'∧SR B C' M∧(∀ id,C'.al id→C.al id):=by
  intro e' w' r D hb he hD hr
  obtain⟨hs2,hk2⟩:=hs.grown hb (ok' w') (fun u b h=>.inl (.inl h)) (fun u b h=>h)
  refine⟨r,he,{ C with w:=w',ok:=ok' w' },rfl,?_,hk2,hs2,fun id h=>h⟩
  unfold jY
  cases hf:c.fresh with
  | true =>
   refine R.keep (C:={ D.pur with w:=w',ok:=_ }) (C':={ C with w:=w',ok:=ok' w' }) ⟨fun _ h=>h.elim,fun _ h=>h.elim,fun _ h=>h.elim,?_,fun _ _ _=>rfl⟩ _ _ hr
   intro u b hb2
   rcases hb2 with ⟨h8,_⟩ | h8
   ·rw[hf] at h8; cases h8
   ·exact .inr h8
  | false =>
   have hD':∀ u b,D.ok u b→C.ok u b:=by
    rcases hD with h | h
    ·rw[hf] at h; cases h
    ·exact h
   have h8:=R.borrow (ok':=ok' w') _ (C:={ D.pur with w:=w',ok:=_ }) ?_ hr
   ·exact R.keep (C:={ D.pur with w:=w',ok:=ok' w' }) (C':={ C with w:=w',ok:=ok' w' }) ⟨fun _ h=>h.elim,fun _ h=>h.elim,fun _ h=>h.elim,fun _ _ h=>h,fun _ _ _=>rfl⟩ _ _ h8
   ·intro u b hb2
    rcases hb2 with ⟨_,u',h9⟩ | h9
    ·cases u'
     ·exact .inl (.inr ⟨rfl,hD' _ _ h9⟩)
     ·exact .inl (.inl (hD' _ _ h9))
    ·exact .inr h9
 rcases hl with ⟨hf,hl⟩ | hl
 ·refine (hc.2 (C.opened B) (unL l) _ ?_ (fun g=>R.keep (Keep.opened C B) _ _ (R.pure_of _ (hGn g) (hs.gl g))) (WI hl) hp).mono fun e' w' ⟨hb,r,he,hr⟩=>fin e' w' r (C.opened B) hb he (.inl hf) hr
  intro u b hb
  rcases hb with hb | hb
  ·exact hs.okLt u b hb
  ·exact hb.2
 ·exact (hc.2 C.pur (unL l) _ hs.okLt (fun g=>R.pure_of _ (hGn g) (R.pure_of _ (hGn g) (hs.gl g))) (WI hl) hp).mono fun e' w' ⟨hb,r,he,hr⟩=>fin e' w' r C.pur hb he (.inr fun _ _ h=>h) hr
theorem zal (hE:Env P ct) {o:Oper}{f:Operand}{args:Array Operand}{ts:Array TypeId}{tm:Tm}{zm:Zm}{nx:Nat}{K:KT}{fid:FuncId}{caps:V}{c:CSpec}(ho:o.op=.call ⟨.value f,args,ts⟩) (hf:ev Gl.G tm f=.fn fid caps) (hlt:fid < 1073741824)
  (hc:xi P fid c) (h:znj c zm nx (appL (args.toList.map (ev Gl.G tm)) caps) K):∃ v,K v zm nx [] []∧WL P B o tm zm nx v zm nx:=by
 obtain⟨fn,hfn,hname,hbody⟩:=hc.1
 have key:∀ l:V,c.pre (unL l)→(∀(H:Nat) (C:Ctx) (M:Mem) (vals:List Value),YR B H C M zm nx→R C (appL (args.toList.map (ev Gl.G tm)) caps) (.list vals)→(c.fresh=true∧R (C.opened B) l (.list vals))∨R C.pur l (.list vals))→WL P B o tm zm nx (jY c l) zm nx:=by
  intro l hp hl H C M ρc hH hz hx
  obtain⟨h0,h3⟩:=jT ho hx
  rw[hf] at h0
  obtain⟨cs,h1,h2⟩:=R.fn0 hlt h0
  have h1':ρc f=.func (.func fid) #[] cs:=h1
  refine (XG hz.sr hE.gn hc (Zt ho h1' hfn hname hbody) (hl H C M _ hz (zb7 _ h3 h2)) hp).mono ?_
  rintro val w' ⟨C',hw,hR,hk,hs,hal⟩
  exact⟨C',M,hw,hR,⟨hs,hz.sub,fun id h1 h2 h3=>hz.al id h1 h2 (hal id h3)⟩,⟨hk,fun id h=>.inl (hal id h),fun _ _ h=>⟨rfl,h⟩⟩⟩
 unfold znj at h
 cases hfr:c.fresh with
 | true =>
  rw[hfr] at h
  obtain⟨hp,hk⟩:=ze.1 (show cnd _ _ from h)
  have hv:jY c (frz (gm zm) 12 (appL (args.toList.map (ev Gl.G tm)) caps))=c.res (unL (frz (gm zm) 12 (appL (args.toList.map (ev Gl.G tm)) caps))):=by unfold jY; rw[hfr]
  refine⟨_,hk,?_⟩
  rw[←hv]
  exact key _ hp fun H C M vals hz hr=>.inl ⟨hfr,R.frz hz.sr hz.sub 12 _ _ hr⟩
 | false =>
  rw[hfr] at h
  obtain⟨hnp,hk⟩:=ze.1 (show cnd _ _ from h)
  obtain⟨hn,hp⟩:=Bool.and_eq_true_iff.1 hnp
  have hv:jY c (appL (args.toList.map (ev Gl.G tm)) caps)=borrow (c.res (unL (appL (args.toList.map (ev Gl.G tm)) caps))):=by unfold jY; rw[hfr]
  refine⟨_,hk,?_⟩
  rw[←hv]
  exact key _ hp fun H C M vals hz hr=>.inr (R.pure_of _ hn hr)
omit [Gl] in
theorem zi5 {m:Mem}(v:V):∀ {p:Bool}{v':V}{rd:List Nat},resM m v=some (p,v',rd)→∀ id∈rd,∃ b,m id=some b:=by
 have pure:∀ {v:V}{p:Bool}{v':V}{rd:List Nat},(if xy v then some (true,v,([]:List Nat)) else none)=some (p,v',rd)→∀ id∈rd,∃ b,m id=some b:=by
  intro v p v' rd h
  split at h
  ·simp only[Option.some.injEq,Prod.mk.injEq] at h
   obtain⟨_,_,rfl⟩:=h
   intro id hid; cases hid
  ·cases h
 have one:∀ {id:Nat}{blk:Blk}{rd:List Nat},m id=some blk→[id]=rd→∀ i∈rd,∃ b,m i=some b:=by
  intro id blk rd hb e i hi
  subst e
  simp only[List.mem_singleton] at hi
  subst hi
  exact⟨_,hb⟩
 induction v with
 | row id e n =>
  intro p v' rd h
  simp only[Y.resM] at h
  split at h
  ·rename_i blk hb
   split at h
   ·split at h
    ·simp only[Option.some.injEq,Prod.mk.injEq] at h; exact one hb h.2.2
    ·cases h
   ·cases h
  ·cases h
 | sl id q e off len cap =>
  intro p v' rd h
  simp only[Y.resM] at h
  split at h
  ·rename_i blk hb
   split at h
   ·split at h
    ·simp only[Option.some.injEq,Prod.mk.injEq] at h; exact one hb h.2.2
    ·cases h
   ·cases h
  ·cases h
 | ptr id q s =>
  intro p v' rd h
  simp only[Y.resM] at h
  split at h
  ·rename_i blk hb
   split at h
   ·simp only[Option.some.injEq,Prod.mk.injEq] at h; exact one hb h.2.2
   ·cases h
  ·cases h
 | cons x t ih1 ih2 =>
  intro p v' rd h
  simp only[Y.resM] at h
  split at h
  ·rename_i p1 h1 r1 p2 t1 r2 e1 e2
   simp only[Option.some.injEq,Prod.mk.injEq] at h
   obtain⟨_,_,rfl⟩:=h
   intro id hid
   rcases List.mem_append.1 hid with hid | hid
   ·exact ih1 e1 id hid
   ·exact ih2 e2 id hid
  ·cases h
 | tup l ih =>
  intro p v' rd h
  simp only[Y.resM] at h
  split at h
  ·rename_i p1 l1 r1 e1
   simp only[Option.some.injEq,Prod.mk.injEq] at h
   obtain⟨_,_,rfl⟩:=h
   exact ih e1
  ·cases h
 | _=>intro p v' rd h; simp only[Y.resM] at h; exact pure h
theorem zeE (hE:Env P ct) {o:Oper}{f:Operand}{args:Array Operand}{ts:Array TypeId}{tm:Tm}{zm:Zm}{nx:Nat}{K:KT}{fid:FuncId}{caps:V}{c:CSpec}(ho:o.op=.call ⟨.value f,args,ts⟩) (hf:ev Gl.G tm f=.fn fid caps) (hlt:fid < 1073741824)
  (hc:xi P fid c) (h:znk c zm nx (appL (args.toList.map (ev Gl.G tm)) caps) K):∃ v rd e,K v zm nx [] rd∧YSt P B o tm zm zm nx nx v [] rd e:=by
 obtain⟨fn,hfn,hname,hbody⟩:=hc.1
 unfold znk at h
 split at h
 ·rename_i p l rd hres
  obtain⟨hall,hk⟩:=ze.1 h
  simp only[Bool.and_eq_true] at hall
  obtain⟨hcond,hp,hpre⟩:=hall
  refine⟨_,rd,⟨jY c l,[],[],rd⟩,hk,⟨rfl,rfl,rfl,rfl,(by intro x hx; cases hx),(fun _ _ h=>h),?_,fun _ M hM=>by rw[qN]; exact hM⟩⟩
  intro M hM C M1 ρc hs hrd _ _ hx
  obtain⟨h0,h3⟩:=jT ho hx
  rw[hf] at h0
  obtain⟨cs,h1,h2⟩:=R.fn0 hlt h0
  have h1':ρc f=.func (.func fid) #[] cs:=h1
  have h4:=zb7 _ h3 h2
  have hrd':∀ id∈rd,M1 id=gm zm id:=fun id hid=>by
   obtain⟨b,hb⟩:=zi5 _ hres id hid
   rw[hrd id hid,hM _ _ hb,hb]
  have hl:(c.fresh=true∧R (C.opened B) l (.list (args.toList.map ρc++cs.toList)))∨R C.pur l (.list (args.toList.map ρc++cs.toList)):=by
   simp only[Bool.or_eq_true,List.isEmpty_iff] at hcond
   rcases hcond with h9 | h9
   ·exact .inl ⟨h9,R.resM hs _ hres hp hrd' h4⟩
   ·exact .inr (R.resM0 _ hres h9 h4)
  refine (XG hs hE.gn hc (Zt ho h1' hfn hname hbody) hl hpre).mono ?_
  rintro val w' ⟨C',hw,hR,hk,hs,hal⟩
  exact⟨C',hw,hR,hk,by rw[qN]; exact hs,fun id h=>.inl (hal id h)⟩
 ·exact h.elim
end
end
end Go.Y
namespace Go.Y
open Go.Ab Go.RowKit
noncomputable section
variable [Gl]
section
variable {P:Program}{ct:yf}{B:Nat}{r:RUN}
omit [Gl] in
theorem yQ {C:Ctx}{caps:V}{cs:List Value}(h:R C caps (.list cs)):R C (mkL (unL caps)) (.list cs):=R.unL caps h
theorem XW (hr:wM P B r) (hE:Env P ct) {o:Oper}{f:Operand}{args:Array Operand}{ts:Array TypeId}{tm:Tm}{zm:Zm}{nx:Nat}{K:V→Zm→Nat→Prop}{fid:FuncId}{caps:V}(ho:o.op=.call ⟨.value f,args,ts⟩) (hf:ev Gl.G tm f=.fn fid caps) (hlt:fid < 1073741824)
  (hkb:KB zm nx) (h:qt r P fid (args.toList.map (ev Gl.G tm)++unL caps) zm nx K):∃ v zm' nx',K v zm' nx'∧KB zm' nx'∧nx≤nx'∧WL P B o tm zm nx v zm' nx':=by
 obtain⟨fn,hfn,hname,hbody,v,zm',nx',k1,k2,k3,k4⟩:=zdT hr hE h hkb
 refine⟨v,zm',nx',k1,k2,k3,fun H C M ρc hH hz hx=>?_⟩
 obtain⟨h0,h3⟩:=jT ho hx
 rw[hf] at h0
 obtain⟨cs,h1,h2⟩:=R.fn0 hlt h0
 have h1':ρc f=.func (.func fid) #[] cs:=h1
 unfold Does
 rw[Zt ho h1' hfn hname hbody]
 exact (k4 H C M _ hH hz (yG h3 (yQ h2))).mono fun e w' ⟨v,he,hp⟩=>⟨v,he,hp⟩
theorem zd3 (hr:wM P B r) (hE:Env P ct) {o:Oper}{tm:Tm}{zm:Zm}{nx:Nat}{K:KT}(hkb:KB zm nx) (h:yop (Z6 r P ct) P Gl.G tm o.op zm nx K) :
  ∃ v zm' nx' up rd,K v zm' nx' up rd∧KB zm' nx'∧nx≤nx'∧WL P B o tm zm nx v zm' nx':=by
 unfold yop at h
 split at h
 ·rename_i f args ts ho
  unfold Z6 zci at h
  split at h
  ·rename_i fid caps hf
   split at h
   ·rename_i c hc
    obtain⟨hlt,h⟩:=ze.1 h
    rw[Nat.blt_eq] at hlt
    obtain⟨v,k1,k2⟩:=zal (B:=B) hE ho hf hlt (hE.ct fid c hc) h
    exact⟨v,zm,nx,[],[],k1,hkb,Nat.le_refl _,k2⟩
   ·obtain⟨hlt,h⟩:=ze.1 h
    rw[Nat.blt_eq] at hlt
    obtain⟨v,zm',nx',k1,k2,k3,k4⟩:=XW hr hE ho hf hlt hkb h
    exact⟨v,zm',nx',[],[],k1,k2,k3,k4⟩
  ·exact h.elim
 ·obtain⟨e,he,hk⟩:=zca h
  obtain⟨h1,h2⟩:=Qz (B:=B) he
  have hs:=YSt.of h1 h2
  exact⟨_,_,_,_,_,hk,hs.kb hkb,by omega,hs.does hkb⟩
def zsi (P:Program) (B:Nat) (ops:Array Oper) (i n:Nat) (tm:Tm) (zm:Zm) (nx:Nat) (N:Nat) (tm':Tm) (zm':Zm) (nx':Nat):Prop :=
 ∀(H:Nat) (C:Ctx) (M:Mem) (a:Act) (Q:Exit→Act→World→Prop),nx'≤H→YR B H C M zm nx→YT C tm a N→(∀ C' M' a',YF B H C M zm nx N tm' zm' nx' C' M' a'→Q .normal a' C'.w)→wpOps P ops Q (List.range' i n) a C.w
theorem Zz (hr:wM P B r) (hE:Env P ct) {ops:Array Oper}{N:Nat}{K:Tm→Zm→Nat→Prop} :
  ∀(l:List Oper) (i:Nat) (tm:Tm) (zm:Zm) (nx:Nat),(∀ k,ops[i + k]?=l[k]?)→(∀ o∈l,dOk N o.dst=true)→zeP (Z6 r P ct) P Gl.G ops.toList l tm zm nx K→KB zm nx →
   ∃ tm' zm' nx',K tm' zm' nx'∧KB zm' nx'∧nx≤nx'∧zsi P B ops i l.length tm zm nx N tm' zm' nx'
 | [],i,tm,zm,nx,_,_,h,hkb=>⟨tm,zm,nx,h,hkb,Nat.le_refl _,fun H C M a Q hH hz ht hQ=>hQ C M a ⟨hz,ht,YC.refl C M zm nx⟩⟩
 | o::l,i,tm,zm,nx,hops,hD,h,hkb=>by
  have hop:ops[i]?=some o:=by have:=hops 0; simpa using this
  have hops':∀ k,ops[i + 1 + k]?=l[k]?:=by
   intro k
   have:=hops (k + 1)
   simp only[List.getElem?_cons_succ] at this
   rw[←this]; congr 1; omega
  have hd:=hD o (by simp)
  have hD':∀ o∈l,dOk N o.dst=true:=fun o ho=>hD o (by simp [ho])
  have h0:zdW ops.toList o.guard tm (fun tm=>yop (Z6 r P ct) P Gl.G tm o.op zm nx fun v zm nx _ _=>Qm o.dst v tm fun tm=>zeP (Z6 r P ct) P Gl.G ops.toList l tm zm nx K) (fun tm=>Qm o.dst (.tup .nl) tm fun tm=>zeP (Z6 r P ct) P Gl.G ops.toList l tm zm nx K):=h
  rcases Jt h0 with ⟨hw,_,tm1,hsm,h1⟩ | ⟨hw,_,tm1,hsm,h1⟩
  ·obtain⟨v,zm1,nx1,up,rd,k1,k6,k5,k4⟩:=zd3 hr hE hkb h1
   rw[Xn] at k1
   obtain⟨tm',zm',nx',q1,q6,q5,q4⟩:=Zz hr hE l (i + 1) _ zm1 nx1 hops' hD' k1 k6
   refine⟨tm',zm',nx',q1,q6,by omega,fun H C M a Q hH hz ht hQ=>?_⟩
   rw[List.length_cons,List.range'_succ,wpOps_cons]
   have ht1:=ht.same hsm
   refine zi7 hop (hw C a N ht) (Does.wp (k4 H C M a.eval (by omega) hz fun x _=>ht1.operand hz.sr.gl x) ?_)
   rintro val w' ⟨C',M',rfl,h2,h3,h4⟩
   exact q4 H C' M' _ Q hH h3 ((ht1.keep h4.kp.toKeep).put hd h2) fun C'' M'' a'' hf=>hQ C'' M'' a'' ⟨hf.yr,hf.yt,h4.trans hf.yc k5 q5⟩
  ·rw[Xn] at h1
   obtain⟨tm',zm',nx',q1,q6,q5,q4⟩:=Zz hr hE l (i + 1) _ zm nx hops' hD' h1 hkb
   refine⟨tm',zm',nx',q1,q6,q5,fun H C M a Q hH hz ht hQ=>?_⟩
   rw[List.length_cons,List.range'_succ,wpOps_cons]
   refine zdV hop (hw C a N ht) ?_
   exact q4 H C M _ Q hH hz ((ht.same hsm).put hd ⟨#[],rfl,rfl⟩) fun C'' M'' a'' hf=>hQ C'' M'' a'' ⟨hf.yr,hf.yt,hf.yc⟩
def Corr:List TE→List ZTE→Prop
 | [],[]=>True
 | te::r,z::s=>Corr r s∧te.o=z.o∧te.n=z.lo∧te.n + te.e.nw.length=z.hi∧te.e.up.map (·.1)=z.up∧te.e.rd=z.rd
 | _,_=>False
omit [Gl] in
theorem Corr.length:∀ {tr:List TE}{s:List ZTE},Corr tr s→tr.length=s.length
 | [],[],_=>rfl
 | te::r,z::s,h=>by simp [Corr.length h.1]
 | [],_::_,h=>h.elim
 | _::_,[],h=>h.elim
omit [Gl] in
theorem zcq {l:List Nat}{id:Nat}:(l.any fun j=>Nat.beq j id)=l.contains id:=by
 induction l with
 | nil=>rfl
 | cons x l ih =>
  simp only[List.any_cons,ih,List.contains_cons]
  congr 1
  rw[Bool.eq_iff_iff,Nat.beq_eq,beq_iff_eq]
  exact⟨fun h=>h.symm,fun h=>h.symm⟩
omit [Gl] in
theorem JJ {z:ZTE}{id:Nat}:JC z id=true↔z.lo≤id∧id < z.hi:=by
 unfold JC
 rw[Bool.and_eq_true,Nat.ble_eq,Nat.ble_eq]
 exact Iff.rfl
omit [Gl] in
theorem zcr {te:TE}{z:ZTE}(h1:te.n=z.lo) (h2:te.n + te.e.nw.length=z.hi) (h3:te.e.up.map (·.1)=z.up) {id:Nat}(h:id∈wids te):zin z id=true:=by
 unfold zin
 rw[Bool.or_eq_true]
 unfold wids at h
 rcases List.mem_append.1 h with h | h
 ·exact .inl (by rw[zcq,List.contains_iff_mem,←h3]; exact h)
 ·obtain⟨h4,h5⟩:=List.mem_range'_1.1 h
  exact .inr (JJ.2 ⟨by omega,by omega⟩)
omit [Gl] in
theorem zeX {te te':TE}{z z':ZTE}(h1:te.n=z.lo) (h2:te.n + te.e.nw.length=z.hi) (h3:te.e.up.map (·.1)=z.up) (h4:te.e.rd=z.rd)
  (k1:te'.n=z'.lo) (k2:te'.n + te'.e.nw.length=z'.hi) (k3:te'.e.up.map (·.1)=z'.up) (k4:te'.e.rd=z'.rd) (h:xK te te'=true):Qn z z'=true:=by
 unfold xK at h
 unfold Qn
 simp only[Bool.or_eq_true,List.any_eq_true] at h ⊢
 rcases h with ⟨id,hid,hc⟩ | ⟨id,hid,hc⟩
 ·have hrd:te.e.rd.contains id=true→zrd z id=true:=fun h5=>by unfold zrd; rw[zcq,←h4]; exact h5
  unfold wids at hid
  rcases List.mem_append.1 hid with hu | hn
  ·refine .inl (.inl (.inl (.inl ⟨id,by rw[←k3]; exact hu,?_⟩)))
   rcases hc with hc | hc
   ·exact .inl (zcr h1 h2 h3 (List.contains_iff_mem.1 hc))
   ·exact .inr (hrd hc)
  ·obtain⟨a1,a2⟩:=List.mem_range'_1.1 hn
   have hin:JC z' id=true:=JJ.2 ⟨by omega,by omega⟩
   rcases hc with hc | hc
   ·have hm:=List.contains_iff_mem.1 hc
    unfold wids at hm
    rcases List.mem_append.1 hm with hm | hm
    ·exact .inl (.inl (.inr ⟨id,by rw[←h3]; exact hm,hin⟩))
    ·obtain⟨b1,b2⟩:=List.mem_range'_1.1 hm
     refine .inr ?_
     rw[Bool.and_eq_true,Nat.ble_eq,Nat.ble_eq]
     exact⟨by show z.lo < z'.hi; omega,by show z'.lo < z.hi; omega⟩
   ·exact .inl (.inr ⟨id,by rw[←h4]; exact List.contains_iff_mem.1 hc,hin⟩)
 ·exact .inl (.inl (.inl (.inr ⟨id,by rw[←k4]; exact hid,zcr h1 h2 h3 (List.contains_iff_mem.1 hc)⟩)))
omit [Gl] in
theorem zjl {te te':TE}{ops:Array Oper}:XH te te' ops=XK te.o te'.o ops:=rfl
omit [Gl] in
theorem zno {te:TE}{k:Nat}:zT te k=zV te.o k:=rfl
omit [Gl] in
theorem JK {ops:Array Oper}{te:TE}{z:ZTE}(h0:te.o=z.o) (h1:te.n=z.lo) (h2:te.n + te.e.nw.length=z.hi) (h3:te.e.up.map (·.1)=z.up) (h4:te.e.rd=z.rd) :
  ∀ {r:List TE}{s:List ZTE},Corr r s→JD.against ops z s=true→j9.against ops te r=true
 | [],[],_,_=>rfl
 | te'::r,z'::s,hc,h=>by
  obtain⟨c0,c1,c2,c3,c4,c5⟩:=hc
  simp only[JD.against,Bool.and_eq_true,Bool.or_eq_true,Bool.not_eq_true',Bool.or_eq_false_iff] at h
  simp only[j9.against,Bool.and_eq_true,Bool.or_eq_true,Bool.not_eq_true',Bool.or_eq_false_iff]
  refine⟨?_,JK h0 h1 h2 h3 h4 c0 h.2⟩
  rcases h.1 with h5 | ⟨h5,h6⟩
  ·exact .inl (by rw[zno,h0,c0.length]; exact h5)
  ·refine .inr ⟨by rw[zjl,h0,c1]; exact h5,?_⟩
   cases hm:xK te te' with
   | false=>rfl
   | true=>rw[zeX h1 h2 h3 h4 c2 c3 c4 c5 hm] at h6; cases h6
 | [],_::_,hc,_=>hc.elim
 | _::_,[],hc,_=>hc.elim
omit [Gl] in
theorem W3 {ops:Array Oper}:∀ {tr:List TE}{s:List ZTE},Corr tr s→JD ops s=true→j9 ops tr=true
 | [],[],_,_=>rfl
 | te::r,z::s,hc,h=>by
  obtain⟨c0,c1,c2,c3,c4,c5⟩:=hc
  simp only[JD,Bool.and_eq_true] at h
  simp only[j9,Bool.and_eq_true]
  refine⟨⟨W3 c0 h.1.1,by rw[c1,c0.length]; exact h.1.2⟩,JK c1 c2 c3 c4 c5 c0 h.2⟩
 | [],_::_,hc,_=>hc.elim
 | _::_,[],hc,_=>hc.elim
def vO:Blk:=⟨.dead,.nl,.unk⟩
theorem zeY (hr:wM P B r) (hE:Env P ct) {o:Oper}{f:Operand}{args:Array Operand}{ts:Array TypeId}{tm:Tm}{zm:Zm}{nx:Nat}{K:V→Nat→Prop}{fid:FuncId}{caps:V}(ho:o.op=.call ⟨.value f,args,ts⟩) (hf:ev Gl.G tm f=.fn fid caps) (hlt:fid < 1073741824)
  (h:qt r P fid (args.toList.map (ev Gl.G tm)++unL caps) .e nx fun v _ nx=>K v nx):∃ v nx' e,K v nx'∧YSt P B o tm zm zm nx nx' v [] [] e:=by
 obtain⟨v,zm1,nx',k1,_,k4,k5⟩:=XW hr hE ho hf hlt (fun id _=>zeG id) h
 refine⟨v,nx',⟨v,[],List.replicate (nx' - nx) vO,[]⟩,k1,⟨rfl,by simp; omega,rfl,rfl,(by intro x hx; cases hx),(fun _ _ h=>h),?_,?_⟩⟩
 ·intro M _ C M1 ρc hs _ _ hfresh hx
  have hfr:∀ id,nx≤id→id < nx'→¬ C.al id:=by
   intro id h1 h2
   have:=hfresh (id - nx) (by simp; omega)
   rwa [show nx + (id - nx)=id by omega] at this
  refine (k5 nx' C M1 ρc (Nat.le_refl _) ⟨hs,(fun id b hb=>by rw[zeG] at hb; cases hb),hfr⟩ hx).mono ?_
  rintro val w' ⟨C',M',hw,hR,hz,hc⟩
  let C2:Ctx:={ C' with al:=fun id=>C'.al id∨(nx≤id∧id < nx') }
  have hk2:Keep C' C2:=⟨fun _ h=>.inl h,fun _ _=>rfl,fun _ _=>rfl,fun _ _ h=>h,fun _ _ _=>rfl⟩
  have htouch:∀ id,zL (⟨v,[],List.replicate (nx' - nx) vO,[]⟩:Eff) nx id=if nx≤id∧id < nx' then some vO else none:=by
   intro id
   unfold zL
   simp only[List.length_replicate,List.lookup_nil]
   by_cases h1:nx≤id∧id < nx'
   ·rw[if_pos (by omega),if_pos h1,List.getElem?_replicate,if_pos (by omega)]
   ·rw[if_neg (by omega),if_neg h1]
  have hput:∀ id blk,put M1 nx (⟨v,[],List.replicate (nx' - nx) vO,[]⟩:Eff) id=some blk→(blk=vO∧nx≤id∧id < nx')∨(M' id=some blk):=by
   intro id blk hb
   unfold put at hb
   rw[htouch] at hb
   by_cases h1:nx≤id∧id < nx'
   ·rw[if_pos h1] at hb
    exact .inl ⟨(Option.some.inj hb).symm,h1.1,h1.2⟩
   ·rw[if_neg h1] at hb
    have:=(hc.fr id (by omega) (zeG id)).1
    exact .inr (by rw[this]; exact hb)
  refine⟨C2,hw,R.keep hk2 _ _ hR,⟨⟨fun id h=>.inl (hc.kp.al id h),hc.kp.sv,hc.kp.shp,hc.kp.ok,hc.kp.heap⟩,hc.kp.below,hc.kp.okn⟩,⟨hz.sr.base,hz.sr.okLt,?_,?_,?_,?_,fun g=>R.keep hk2 _ _ (hz.sr.gl g)⟩,?_⟩
  ·intro id blk hb
   rcases hput id blk hb with ⟨_,h1,h2⟩ | h1
   ·exact .inr ⟨h1,h2⟩
   ·exact .inl (hz.sr.al id blk h1)
  ·intro id blk hb
   rcases hput id blk hb with ⟨rfl,_,_⟩ | h1
   ·trivial
   ·exact (hz.sr.mem id blk h1).keep (hz.sr.al id blk h1) hk2 fun _ _=>rfl
  ·intro id id' blk blk' b h1 h2 h3 h4 h5 h6
   rcases hput id blk h1 with ⟨rfl,_,_⟩ | h1
   ·cases h2
   ·rcases hput id' blk' h3 with ⟨rfl,_,_⟩ | h3
    ·cases h4
    ·exact hz.sr.sep id id' blk blk' b h1 h2 h3 h4 h5 h6
  ·intro id blk b h1 h2 h3
   rcases hput id blk h1 with ⟨rfl,_,_⟩ | h1
   ·cases h2
   ·exact hz.sr.own id blk b h1 h2 h3
  ·intro id hid
   simp only[List.length_replicate]
   rcases hid with hid | hid
   ·rcases hc.al id hid with h1 | h1
    ·exact .inl h1
    ·exact .inr ⟨h1.1,by omega⟩
   ·exact .inr ⟨hid.1,by omega⟩
 ·intro hkb M hM id b hb
  have h1:id < nx:=by
   rcases Nat.lt_or_ge id nx with h1 | h1
   ·exact h1
   ·rw[hkb id h1] at hb; cases hb
  have:zL (⟨v,[],List.replicate (nx' - nx) vO,[]⟩:Eff) nx id=none:=by
   unfold zL
   rw[if_neg (by omega)]; rfl
  simp only[put,this]
  exact hM id b hb
theorem zjm (hr:wM P B r) (hE:Env P ct) {o:Oper}{tm:Tm}{zm:Zm}{nx:Nat}{K:KT}(h:yop (XJ r P ct) P Gl.G tm o.op zm nx K) :
  ∃ v zm' nx' up rd e,K v zm' nx' up rd∧YSt P B o tm zm zm' nx nx' v up rd e:=by
 unfold yop at h
 split at h
 ·rename_i f args ts ho
  unfold XJ zci at h
  split at h
  ·rename_i fid caps hf
   split at h
   ·rename_i c hc
    obtain⟨hlt,h⟩:=ze.1 h
    rw[Nat.blt_eq] at hlt
    obtain⟨v,rd,e,k1,k2⟩:=zeE (B:=B) hE ho hf hlt (hE.ct fid c hc) h
    exact⟨v,zm,nx,[],rd,e,k1,k2⟩
   ·obtain⟨hlt,h⟩:=ze.1 h
    rw[Nat.blt_eq] at hlt
    obtain⟨v,nx',e,k1,k2⟩:=zeY (K:=fun v nx=>K v zm nx [] []) hr hE ho hf hlt h
    exact⟨v,zm,nx',[],[],e,k1,k2⟩
  ·exact h.elim
 ·obtain⟨e,he,hk⟩:=zca h
  obtain⟨h1,h2⟩:=Qz (B:=B) he
  exact⟨_,_,_,_,_,e,hk,YSt.of h1 h2⟩
structure YTr (P:Program) (B:Nat) (ops:Array Oper) (N:Nat) (tm0:Tm) (zm0:Zm) (nx0:Nat) (tm:Tm) (zm:Zm) (nx:Nat) (tr:List TE) (zs:List ZTE):Prop where
 corr:Corr tr zs
 tv:∀ t,tv tm t=Ab.look wrT (tv tm0) (fun _=>true) tr t
 nxe:nx=vy nx0 tr
 le:nx0≤nx
 kb:KB zm nx
 mem:∀ M,Sub (gm zm0) M→Valid P B Gl.G ops N (Y.tv tm0) M nx0 tr∧Sub (gm zm) (Ab.look wrM M (fun _=>true) tr) ∧
  ∀ id,(id < nx0∨nx≤id)→gm zm0 id=none→Ab.look wrM M (fun _=>true) tr id=M id∧gm zm id=none
theorem XX (hr:wM P B r) (hE:Env P ct) {ops:Array Oper}{N:Nat}{tm0:Tm}{zm0:Zm}{nx0:Nat}{K:Tm→Zm→Nat→List ZTE→Prop} :
  ∀(l:List Oper) (tm:Tm) (zm:Zm) (nx:Nat) (tr:List TE) (zs:List ZTE),(∀ k,ops[tr.length + k]?=l[k]?)→(∀ o∈l,dOk N o.dst=true)→YTr P B ops N tm0 zm0 nx0 tm zm nx tr zs→zcj (XJ r P ct) P Gl.G ops.toList l tm zm nx zs K →
   ∃ tm' zm' nx' tr' zs',K tm' zm' nx' zs'∧YTr P B ops N tm0 zm0 nx0 tm' zm' nx' tr' zs'∧tr'.length=tr.length + l.length
 | [],tm,zm,nx,tr,zs,_,_,hz,h=>⟨tm,zm,nx,tr,zs,h,hz,rfl⟩
 | o::l,tm,zm,nx,tr,zs,hops,hD,hz,h=>by
  have hop:ops[tr.length]?=some o:=by have:=hops 0; simpa using this
  have hops':∀ k,ops[tr.length + 1 + k]?=l[k]?:=by
   intro k
   have:=hops (k + 1)
   simp only[List.getElem?_cons_succ] at this
   rw[←this]; congr 1; omega
  have hd:=hD o (by simp)
  have hD':∀ o∈l,dOk N o.dst=true:=fun o ho=>hD o (by simp [ho])
  have hdst:∀ d,o.dst=some d→d < N:=by intro d h1; rw[h1] at hd; simpa [dOk] using hd
  have hlook:∀(v:V) (te:TE),te.o=o→te.e.v=v→∀ tm1,Same tm tm1→∀ t,tv (zaq o.dst v tm1) t=Ab.look wrT (tv tm0) (fun _=>true) (te::tr) t:=by
   intro v te h1 h2 tm1 hsm t
   simp only[Ab.look,if_true,wrT,h1,h2]
   rw[←hz.tv t]
   cases ho:o.dst with
   | none=>exact hsm t
   | some d =>
    by_cases hdt:t=d
    ·subst hdt; simp [zaq,w8]
    ·have hdt':¬ d=t:=fun e=>hdt e.symm
     simp [zaq,w8,hdt,hdt']
     exact hsm t
  have h0:zdW ops.toList o.guard tm
    (fun tm=>yop (XJ r P ct) P Gl.G tm o.op zm nx fun v zm nx' up rd=>Qm o.dst v tm fun tm=>zcj (XJ r P ct) P Gl.G ops.toList l tm zm nx' (.mk o nx nx' up rd::zs) K)
    (fun tm=>Qm o.dst (.tup .nl) tm fun tm=>zcj (XJ r P ct) P Gl.G ops.toList l tm zm nx (.mk o nx nx [] []::zs) K):=h
  rcases Jt h0 with ⟨_,hw,tm1,hsm,h1⟩ | ⟨_,hw,tm1,hsm,h1⟩
  ·obtain⟨v,zm1,nx1,up,rd,e,k1,k2⟩:=zjm hr hE h1
   rw[Xn] at k1
   have hne:=k2.nxt
   refine (?_:∃ tm' zm' nx' tr' zs',K tm' zm' nx' zs'∧YTr P B ops N tm0 zm0 nx0 tm' zm' nx' tr' zs'∧tr'.length=tr.length + 1 + l.length) |> fun⟨a,b,c,d,e,f,g,hh⟩=>⟨a,b,c,d,e,f,g,by rw[hh]; simp; omega⟩
   have hcorr:Corr (⟨o,e,nx,false⟩::tr) (.mk o nx nx1 up rd::zs):=⟨hz.corr,rfl,rfl,by show nx + e.nw.length=nx1; omega,k2.ups,k2.rds⟩
   refine XX hr hE l _ zm1 nx1 (⟨o,e,nx,false⟩::tr) _ (by simpa using hops') hD' ⟨hcorr,hlook v ⟨o,e,nx,false⟩ rfl k2.val tm1 hsm,?_,?_,k2.kb hz.kb,?_⟩ k1
   ·show nx1=nx + e.nw.length; exact hne
   ·have:=hz.le; omega
   ·intro M hM
    obtain⟨m1,m2,m3⟩:=hz.mem M hM
    have hS:(fun id=>Ab.look wrM M (fun _=>true) (⟨o,e,nx,false⟩::tr) id)=put (Ab.look wrM M (fun _=>true) tr) nx e:=by
     funext id
     simp only[Ab.look,if_true,jW M]
     rfl
    refine⟨⟨m1,hop,hz.nxe,hdst,?_,?_⟩,?_,?_⟩
    ·exact hw _ fun t=>(hz.tv t).symm
    ·simp only[Bool.false_eq_true,if_false]
     have h5:=k2.sem _ m2
     have:ev Gl.G tm1=opv Gl.G (Ab.look wrT (tv tm0) (fun _=>true) tr):=by
      unfold ev
      congr 1
      funext t
      exact (hsm t).trans (hz.tv t)
     rw[←this]; exact h5
    ·have:=k2.sub hz.kb _ m2
     intro id b hb
     have h6:=this id b hb
     rw[←hS] at h6
     exact h6
    ·intro id hid hn
     obtain⟨q1,q2⟩:=m3 id (by have:=hz.le; omega) hn
     refine⟨?_,k2.kn id (by have:=hz.le; omega) q2⟩
     have h7:=congrFun hS id
     rw[show Ab.look wrM M (fun _=>true) (⟨o,e,nx,false⟩::tr) id=put (Ab.look wrM M (fun _=>true) tr) nx e id from h7]
     have ht:zL e nx id=none:=by
      unfold zL
      rw[if_neg (by have:=hz.le; omega)]
      cases hl:e.up.lookup id with
      | none=>rfl
      | some b =>
       exfalso
       obtain⟨x,hx,e1⟩:=ve hl
       obtain⟨b',hb'⟩:=k2.upk x hx
       rw[e1,q2] at hb'; cases hb'
     simp only[put,ht]
     exact q1
  ·rw[Xn] at h1
   refine (?_:∃ tm' zm' nx' tr' zs',K tm' zm' nx' zs'∧YTr P B ops N tm0 zm0 nx0 tm' zm' nx' tr' zs'∧tr'.length=tr.length + 1 + l.length) |> fun⟨a,b,c,d,e,f,g,hh⟩=>⟨a,b,c,d,e,f,g,by rw[hh]; simp; omega⟩
   have hcorr:Corr (⟨o,jn,nx,true⟩::tr) (.mk o nx nx [] []::zs):=⟨hz.corr,rfl,rfl,rfl,rfl,rfl⟩
   refine XX hr hE l _ zm nx (⟨o,jn,nx,true⟩::tr) _ (by simpa using hops') hD' ⟨hcorr,hlook (.tup .nl) ⟨o,jn,nx,true⟩ rfl rfl tm1 hsm,?_,hz.le,hz.kb,?_⟩ h1
   ·show nx=nx + 0; rfl
   ·intro M hM
    obtain⟨m1,m2,m3⟩:=hz.mem M hM
    have hS:∀ id,Ab.look wrM M (fun _=>true) (⟨o,jn,nx,true⟩::tr) id=Ab.look wrM M (fun _=>true) tr id:=by
     intro id
     simp only[Ab.look,if_true,jW M]
     have h1:¬ (nx≤id∧id < nx + 0):=by omega
     simp only[jn,zL,List.length_nil,h1,if_false,List.lookup_nil]
    refine⟨⟨m1,hop,hz.nxe,hdst,hw _ fun t=>(hz.tv t).symm,by simp [jn]⟩,fun id b hb=>by rw[hS]; exact m2 id b hb,fun id hid hn=>by rw[hS]; exact m3 id hid hn⟩
end
end
end Go.Y
