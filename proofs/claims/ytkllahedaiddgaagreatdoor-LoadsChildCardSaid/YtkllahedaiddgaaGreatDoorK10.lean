/- The run is right: calls, operations. No condition. -/
import Derived.Test.YtkllahedaiddgaaGreatDoorK8
set_option linter.unusedSimpArgs false
set_option linter.unusedVariables false
namespace Go.K
open Go.Ab Go.RowKit Go.Y
noncomputable section
variable [KGl]
abbrev KTm:=Tr KV
def zn (tr:KTm) (t:Nat):KV:=get .unk (enc t) tr
abbrev K3:=Exit→KTm→KZ→Nat→Nat→Prop
abbrev RUN:=Nat→Nat→Code→KTm→KZ→Nat→Nat→K3→Prop
abbrev KO:=KV→KZ→Nat→Nat→List Nat→List Nat→Bool→Prop
abbrev zh:=List KV→(KV→Prop)→Prop
structure KEnv where
 P:Program
 ct:FuncId→Option zh
 md:FuncId→Nat
 km:FuncId→Nat
 ol:FuncId→Bool:=fun _=>false
 ex:FuncId→Bool:=fun _=>false
 cb:FuncId→Option zh:=fun _=>none
 as:FuncId→Option (Nat×Nat):=fun _=>none
 sc:Bool:=false
def xP (mask t:Nat):Bool:=Nat.beq (Nat.mod (Nat.shiftRight mask t) 2) 1
def J7 (d:Nat) (v:KV) (τ:Nat→KV):Nat→KV:=fun t=>@Bool.rec (fun _=>KV) (τ t) v (Nat.beq t d)
def y3 (d:Option Tmp) (v:KV) (τ:Nat→KV) (K:(Nat→KV)→Prop):Prop:=@Option.rec Tmp (fun _=>Prop) (K τ) (fun d=>fV v fun v=>K fun t=>@Bool.rec (fun _=>KV) (τ t) v (Nat.beq t d)) d
def js (mask:Nat) (τ:Nat→KV) (ops:List Oper):KTm→(KTm→Prop)→Prop:=@List.rec Oper (fun _=>KTm→(KTm→Prop)→Prop) (fun tr K=>K tr)
 (fun o _ ih tr K=>@Option.rec Tmp (fun _=>Prop) (ih tr K) (fun d=>@Bool.rec (fun _=>Prop) (ih tr K) (fV (τ d) fun v=>vc v (enc d) tr fun tr=>ih tr K) (xP mask d)) o.dst) ops
def clB:Bool:=KGl.cl
def zbP (b:Bool) (y n:Prop) (y' n':Prop):Prop:=@Bool.rec (fun _=>Prop) (alt b y' n') (alt b y n) clB
def gV (v:KV) (want:Bool) (d:Nat) (τ:Nat→KV) (y n:(Nat→KV)→Prop):Prop :=
 jo (fun b=>@Bool.rec (fun _=>Prop) (zbP b (n τ) (y τ) (n (J7 d (.bool true) τ)) (y (J7 d (.bool false) τ))) (zbP b (y τ) (n τ) (y (J7 d (.bool true) τ)) (n (J7 d (.bool false) τ))) want)
  (QQ (fun l=>Qc (n τ) (BadN 1) l) (BadN 1) v) v
def zgS (ops:List Oper) (g:Option (Nat×Bool)) (τ:Nat→KV) (y n:(Nat→KV)→Prop):Prop :=
 @Option.rec (Nat×Bool) (fun _=>Prop) (y τ) (pr fun j want=>os 4 (fun d=>gV (τ d) want d τ y n) (zdg ops j)) g
def zu4 (t:Nat) (tr:KTm) (f:Bool→KTm→Prop):Prop:=jo (fun b=>zbP b (f true tr) (f false tr) (vc (.bool true) (enc t) tr (f true)) (vc (.bool false) (enc t) tr (f false))) (BadN 2) (zn tr t)
def zgT (v:KV) (tr:KTm) (f:Bool→KTm→Prop):Prop:=jo (fun b=>alt b (f true tr) (f false tr)) (BadN 3) v
def zgU (c:Operand) (tr:KTm) (f:Bool→KTm→Prop):Prop:=@Operand.rec (fun _=>KTm→(Bool→KTm→Prop)→Prop) (fun t tr f=>zu4 t tr f) (fun v tr f=>zgT (Xm v) tr f) (fun g tr f=>zgT (KGl.g g) tr f) (fun _ _ _=>BadN 3) c tr f
def rvC (s:Shape) (v:KV) (zm:KZ) (K:KV→Prop):Prop:=yz (fun id p s'=>oB zm id fun k _ b=>chk (nd (wg k) (nd (yF p b) (s'.beq s))) 170 (fV (jd p b) K)) (BadN 171) v
def rvO (P:Program) (τ:Nat→KV) (zm:KZ) (r:ResultVar) (K:KV→Prop):Prop:=@ResultVar.rec (fun _=>Prop) (fun t=>K (τ t)) (fun a t=>os 172 (fun s=>rvC s (τ a) zm K) (ldS P t)) r
def rvL (P:Program) (τ:Nat→KV) (zm:KZ) (l:List ResultVar):(KV→Prop)→Prop:=@List.rec ResultVar (fun _=>(KV→Prop)→Prop) (fun K=>K .nl) (fun r _ ih K=>rvO P τ zm r fun x=>ih fun w=>K (.cons x w)) l
def rvA (P:Program) (τ:Nat→KV) (zm:KZ) (l:List ResultVar) (K:KV→Prop):Prop:=match l with
 | [r]=>rvO P τ zm r K
 | l=>rvL P τ zm l fun w=>K (.tup w)
def zfs (P:Program) (rs:List ResultVar) (K:KV→KZ→Nat→Nat→Prop) (e:Exit) (tr:KTm) (zm:KZ) (nx mx:Nat):Prop:=match e with
 | .normal=>rvA P (zn tr) zm rs fun v=>K v zm nx mx
 | .ret=>rvA P (zn tr) zm rs fun v=>K v zm nx mx
 | _=>BadN 6
def QA (mask:Nat) (l:List KV):Nat→KTm→(KTm→Prop)→Prop:=@List.rec KV (fun _=>Nat→KTm→(KTm→Prop)→Prop) (fun _ t K=>K t) (fun x _ ih i t K=>@Bool.rec (fun _=>Prop) (ih (Nat.succ i) t K) (vc x (enc i) t fun t=>ih (Nat.succ i) t K) (xP mask i)) l
def fnB (P:Program) (fid:FuncId):Option (Code×List ResultVar):=match P.funcs[fid]? with
 | some fn=>match fn.body with
  | some c=>some (c,fn.results.toList)
  | none=>none
 | none=>none
def zS (n:Nat) (v:KV):Bool:=@KV.rec (fun _=>Bool) (fun x0 x1=>true) (fun x0=>true) (fun x0 x1=>true) (true) (fun x0 x1 r0 r1=>nd r0 r1) (fun x0 x1 x2=>true) (fun x0 x1 x2 r0 r1=>nd r0 r1) (true) (fun x0 x1 x2 x3 r0 r1 r2 r3=>nd r0 (nd r1 (nd r2 r3))) (fun x0 x1 x2 x3 x4 r0 r1 r2 r3 r4=>nd r0 (nd r1 (nd r2 (nd r3 r4)))) (fun x0 x1 x2=>Nat.blt x0 n) (fun x0 x1 x2=>Nat.blt x0 n) (fun x0 x1 x2 x3 x4 x5=>Nat.blt x0 n) (fun x0 x1 x2 r0=>true) (true) (true) (true) (fun x0 x1 x2 x3 x4 x5 r0=>true) (fun x0 x1 r0=>r0) (fun x0 r0=>r0) (true) (fun x0=>Nat.blt x0 n) (fun x0 x1 r=>qa x0 r) (fun _ _=>true) v
def y4 (a b:Nat):Nat:=@Bool.rec (fun _=>Nat) a b (Nat.ble a b)
def zn0 (m:Nat) (zm0:KZ) (nx0:Nat) (K:KO) (v:KV) (zm:KZ) (nx mx:Nat):Prop :=
 @Nat.rec (fun _=>Prop) (K v zm nx mx [] [] true) (fun _ _=>chk (zS nx0 v) 173 (fN (y4 nx mx) fun mx=>K v zm0 nx0 mx [] [] true)) m
def zgV (m:Nat) (zm0:KZ) (K:KO) (v:KV) (zm:KZ) (nx mx:Nat):Prop :=
 fN (y4 nx mx) fun nx=>@Nat.rec (fun _=>Prop) (K v zm nx nx [] [] true) (fun _ _=>K v zm0 nx nx [] [] true) m
def VU (zm1:KZ) (n:Nat):Nat→KZ→(KZ→Prop)→Prop:=@Nat.rec (fun _=>Nat→KZ→(KZ→Prop)→Prop) (fun _ zm K=>K zm) (fun _ ih i zm K=>vc (kb zm1 i) (enc i) zm fun zm=>zW (Nat.succ i) fun i=>ih i zm K) n
def zgW (m:Nat) (zm0:KZ) (nx0:Nat) (K:KO) (v:KV) (zm:KZ) (nx mx:Nat):Prop :=
 fN (y4 nx mx) fun nx'=>@Nat.rec (fun _=>Prop) (VU zm (Nat.sub nx' nx0) nx0 zm0 fun zm=>K v zm nx' nx' [] [] false) (fun _ _=>K v zm0 nx' nx' [] [] false) m
def xt (l:List KV):Bool:=@List.rec KV (fun _=>Bool) true (fun x _ ih=>nd (zS 0 x) ih) l
def zi (E:KEnv) (run:RUN) (lo:Nat) (fid:FuncId) (l:List KV) (zm:KZ) (nx mx:Nat) (K:KV→KZ→Nat→Nat→Prop):Prop :=
 os 174 (pr fun c rs=>QA (E.km fid) l 0 .e fun tr=>run (E.km fid) lo c tr zm nx mx (zfs E.P rs K)) (fnB E.P fid)
def m0 (m:Nat):Nat:=@Nat.rec (fun _=>Nat) 0 (fun k _=>@Nat.rec (fun _=>Nat) 1 (fun _ _=>0) k) m
def isW (m:Nat):Bool:=@Nat.rec (fun _=>Bool) false (fun k _=>@Nat.rec (fun _=>Bool) false (fun _ _=>true) k) m
def zu5 (x:KV) (d:Nat):Nat:=match x with
 | .ptr id _ _=>id
 | .row id _ _=>id
 | .sl id _ _ _ _ _=>id
 | _=>d
def zA9 (a b:Nat):Nat:=@Bool.rec (fun _=>Nat) b a (Nat.ble a b)
def zu6 (d:Nat) (l:List KV):Nat:=@List.rec KV (fun _=>Nat) d (fun x _ ih=>zA9 (zu5 x d) ih) l
def zdv (E:KEnv) (run:RUN) (lo:Nat) (fid:FuncId) (l:List KV) (zm:KZ) (nx mx:Nat) (K:KO):Prop :=
 fN (@Bool.rec (fun _=>Nat) (y4 lo (zu6 nx l)) lo (Nat.ble 3 (E.md fid))) fun lo'=>chk (nd (Nat.ble lo lo') (Nat.ble lo' nx)) 251 (zi E run lo' fid l zm nx mx fun v zm' nx1 mx1=>fN (y4 nx1 mx1) fun nx2=>zhw zm zm' lo' (Nat.sub nx lo') fun U=>K v zm' nx2 nx2 U [] true)
def QB (E:KEnv) (run:RUN) (dr:Bool) (lo:Nat) (fid:FuncId) (l:List KV) (zm:KZ) (nx mx:Nat) (K:KO):Prop :=
 @Bool.rec (fun _=>Prop) (zi E run (@Nat.rec (fun _=>Nat) lo (fun _ _=>nx) (m0 (E.md fid))) fid l zm nx mx (zn0 (m0 (E.md fid)) zm nx K))
  (@Bool.rec (fun _=>Prop) (@Bool.rec (fun _=>Prop) (zi E run nx fid l zm nx mx (zgV (E.md fid) zm K)) (zi E run nx fid l .e nx mx (zgW (E.md fid) zm nx K)) (xt l)) (zdv E run lo fid l zm nx mx K) (isW (E.md fid))) dr
def WG (l:KV) (K:List KV→Prop):Prop:=@KV.rec (fun _=>(List KV→Prop)→Prop) (fun x0 x1=>fun K=>K []) (fun x0=>fun K=>K []) (fun x0 x1=>fun K=>K []) (fun K=>K []) (fun x0 x1 r0 r1=>fun K=>r1 fun l=>K (x0::l)) (fun x0 x1 x2=>fun K=>K []) (fun x0 x1 x2 r0 r1=>fun K=>K []) (fun K=>K []) (fun x0 x1 x2 x3 r0 r1 r2 r3=>fun K=>K []) (fun x0 x1 x2 x3 x4 r0 r1 r2 r3 r4=>fun K=>K []) (fun x0 x1 x2=>fun K=>K []) (fun x0 x1 x2=>fun K=>K []) (fun x0 x1 x2 x3 x4 x5=>fun K=>K []) (fun x0 x1 x2 r0=>fun K=>K []) (fun K=>K []) (fun K=>K []) (fun K=>K []) (fun x0 x1 x2 x3 x4 x5 r0=>fun K=>K []) (fun x0 x1 r0=>fun K=>K []) (fun x0 r0=>fun K=>K []) (fun K=>K []) (fun _=>(fun K=>K [])) (fun _ _ _=>(fun K=>K [])) (fun _ _=>(fun K=>K [])) l K
def zat (l:List KV):List KV→(List KV→Prop)→Prop:=@List.rec KV (fun _=>List KV→(List KV→Prop)→Prop) (fun r K=>K r) (fun x _ ih r K=>ih r fun r=>K (x::r)) l
def zu7 (cap:Option Nat) (len:Nat):Bool:=@Option.rec Nat (fun _=>Bool) false (fun k=>Nat.beq k len) cap
def zgX (zm:KZ) (x:KV) (K:KV→Prop):Prop :=
 Jg (fun id p e off len cap=>oB zm id fun kd _ v=>fV (jd p v) fun c=>chk (nd (wg kd) (nd (arK c) (nd (zS 0 c) (nd (yF p v) (Nat.ble (Nat.add off len) (arZ c)))))) 220 (K (.ro false (zu7 cap len) e off len c)))
  (yA (fun id e len=>oB zm id fun kd _ v=>chk (nd (wg kd) (nd (arK v) (nd (zS 0 v) (Nat.ble len (arZ v))))) 221 (K (.ro false false e 0 len v)))
   (yz (fun id p s=>oB zm id fun kd _ v=>fV (jd p v) fun c=>chk (nd (wg kd) (nd (yF p v) (zS 0 c))) 222 (K (.ref false s c))) (BadN 223) x) x) x
def QC (zm:KZ) (k:Nat):KV→(KV→Prop)→Prop:=@Nat.rec (fun _=>KV→(KV→Prop)→Prop) (fun _ _=>BadN 224) (fun _ ih x K=>@Bool.rec (fun _=>Prop) (xN (fun a b=>ih a fun a=>ih b fun b=>K (.cons a b)) (zgX zm x K) x) (K x) (zS 0 x)) k
def XM (zm:KZ) (l:List KV):(List KV→Prop)→Prop:=@List.rec KV (fun _=>(List KV→Prop)→Prop) (fun K=>K []) (fun x _ ih K=>@Bool.rec (fun _=>Prop) (QC zm 60 x fun x=>ih fun l=>K (x::l)) (ih fun l=>K (x::l)) (zS 0 x)) l
def zau (l:List KV) (zm:KZ) (nx mx:Nat) (K:KO) (s:zh):Prop :=
 @Bool.rec (fun _=>Prop) (XM zm l fun l=>s l fun v=>fV v fun v=>K v zm nx mx [] [] true) (s l fun v=>fV v fun v=>K v zm nx mx [] [] false) (xt l)
def ctU (E:KEnv) (fid:FuncId) (l:List KV):Option zh:=@Bool.rec (fun _=>Option zh) (E.ct fid) (@Bool.rec (fun _=>Option zh) none (E.ct fid) (xt l)) (E.ol fid)
omit [KGl] in
theorem zn1 {E:KEnv}{fid:FuncId}{l:List KV}{s:zh}(h:ctU E fid l=some s):E.ct fid=some s:=by
 unfold ctU at h
 cases h1:E.ol fid with
 | false=>rw[h1] at h; exact h
 | true =>
  rw[h1] at h
  cases h2:xt l with
  | true=>rw[h2] at h; exact h
  | false=>rw[h2] at h; cases h
def ctB (E:KEnv) (fid:FuncId) (l:List KV):Option zh:=@Option.rec zh (fun _=>Option zh) none (fun s=>@Bool.rec (fun _=>Option zh) none (some s) (xt l)) (E.cb fid)
omit [KGl] in
theorem zn2 {E:KEnv}{fid:FuncId}{l:List KV}{s:zh}(h:ctB E fid l=some s):E.cb fid=some s∧xt l=true:=by
 unfold ctB at h
 cases h1:E.cb fid with
 | none=>rw[h1] at h; cases h
 | some t =>
  rw[h1] at h
  replace h:@Bool.rec (fun _=>Option zh) none (some t) (xt l)=some s:=h
  cases h2:xt l with
  | true=>rw[h2] at h; exact⟨h,rfl⟩
  | false=>rw[h2] at h; cases h
def zgY (l:List KV) (zm:KZ) (nx mx:Nat) (K:KO) (s:zh):Prop:=s l fun v=>fV v fun v=>K v zm nx mx [] [] false
def zav (E:KEnv) (run:RUN) (dr:Bool) (lo:Nat) (fid:FuncId) (l:List KV) (zm:KZ) (nx mx:Nat) (K:KO):Prop :=
 @Option.rec zh (fun _=>Prop) (@Option.rec zh (fun _=>Prop) (QB E run dr lo fid l zm nx mx K) (zau l zm nx mx K) (ctU E fid l)) (zgY l zm nx mx K) (ctB E fid l)
def Zz (E:KEnv) (run:RUN) (dr:Bool) (lo:Nat) (l:List KV) (zm:KZ) (nx mx:Nat) (K:KO) (fid:FuncId) (caps:KV):Prop :=
 @Bool.rec (fun _=>Prop) (chk (Nat.blt fid 2147483648) 247 <| xN (fun x rest=>QQ (fun first=>WG first fun fs=>WG rest fun cs=>zat l cs fun l=>zat fs l fun l=>fN (Nat.mod fid 1073741824) fun fid=>zav E run dr lo fid l zm nx mx K) (BadN 248) x) (BadN 249) caps)
  (WG caps fun cs=>zat l cs fun l=>zav E run dr lo fid l zm nx mx K) (Nat.blt fid 1073741824)
def zgZ:KV→Bool
 | .unk=>true
 | _=>false
def zlu (tr:KTm):KV:=@Tr.rec KV (fun _=>KV) .te (fun _ _ _ _ a b c d=>.tb a b c d) (fun x _ _ _ _ a b c d=>.tn x a b c d) tr
def Xk:KV→KTm
 | .tb a b c d=>.m (Xk a) (Xk b) (Xk c) (Xk d)
 | .tn x a b c d=>.n x (Xk a) (Xk b) (Xk c) (Xk d)
 | _=>.e
def exN (e:Exit):Bool:=match e with
 | .normal=>true
 | _=>false
def exK (e:Exit) (f:KV→Bool→Prop):Prop:=match e with
 | .normal=>f .nl true
 | .ret=>f (.bool true) false
 | .exit i=>f (.int .i64 (.ofNat i)) false
 | _=>BadN 201
def stK (st:KV) (f:Exit→Prop):Prop:=Qc (f .normal) (jo (fun b=>@Bool.rec (fun _=>Prop) (BadN 204) (f .ret) b) (z8 (fun k i=>chk (xa k .i64) 205 (@Int.rec (fun _=>Prop) (fun n=>f (.exit n)) (fun _=>BadN 206) i)) (BadN 207) st) st) st
def zaw (mask:Nat) (ps:List Tmp):List KV→KTm→(KTm→Prop)→Prop:=@List.rec Tmp (fun _=>List KV→KTm→(KTm→Prop)→Prop) (fun l tr K=>@List.rec KV (fun _=>Prop) (K tr) (fun _ _ _=>BadN 198) l)
 (fun p _ ih l tr K=>@List.rec KV (fun _=>Prop) (BadN 199) (fun v r _=>@Bool.rec (fun _=>Prop) (ih r tr K) (fV v fun v=>vc v (enc p) tr fun tr=>ih r tr K) (xP mask p)) l) ps
def zax (mask:Nat) (tr:KTm):Nat→Nat→Bool:=@Tr.rec KV (fun _=>Nat→Nat→Bool) (fun _ _=>true)
 (fun _ _ _ _ a b c d i w=>nd (a (Nat.add i w) (Nat.mul 4 w)) (nd (b (Nat.add i (Nat.mul 2 w)) (Nat.mul 4 w)) (nd (c (Nat.add i (Nat.mul 3 w)) (Nat.mul 4 w)) (d (Nat.add i (Nat.mul 4 w)) (Nat.mul 4 w)))))
 (fun x _ _ _ _ a b c d i w=>nd (@Bool.rec (fun _=>Bool) (zgZ x) true (xP mask i)) (nd (a (Nat.add i w) (Nat.mul 4 w)) (nd (b (Nat.add i (Nat.mul 2 w)) (Nat.mul 4 w)) (nd (c (Nat.add i (Nat.mul 3 w)) (Nat.mul 4 w)) (d (Nat.add i (Nat.mul 4 w)) (Nat.mul 4 w)))))) tr
def ylK (run:RUN) (lo:Nat) (l:List KV) (zm:KZ) (nx mx:Nat) (K:KO) (id:Nat) (mask:Nat) (ps:Array Tmp) (x y:Code) (sh:Shape) (w t:KV):Prop :=
 chk (zax mask (Xk t) 0 1) 209 <| zaw mask ps.toList l (Xk t) fun tr=>vc none (enc id) zm fun zm=>run mask lo x tr zm nx mx fun e tr zm nx mx=>chk (exN e) 200 (run mask lo y tr zm nx mx fun e _ zm nx mx=>exK e fun st b=>vc (some ⟨.lp mask ps x y,sh,.cons st w⟩) (enc id) zm fun zm=>K (.bool b) zm nx mx [] [] false)
def WH (run:RUN) (dr:Bool) (lo:Nat) (l:List KV) (zm:KZ) (nx mx:Nat) (K:KO) (id:Nat):Prop :=
 @Bool.rec (fun _=>Prop) (chk (nd (Nat.ble lo id) (Nat.blt id nx)) 192 (oB zm id fun kd sh v=>@Kind.rec (fun _=>Prop) (fun _=>BadN 193) (fun _=>BadN 193) (BadN 193) (fun mask ps x y=>xN (fun st w=>Qc (W5 (fun _ d t=>chk (zgZ d) 194 (ylK run lo l zm nx mx K id mask ps x y sh w t)) (BadN 195) w) (BadN 196) st) (BadN 197) v) (BadN 193) kd)) (BadN 208) dr
def zu8 (E:KEnv) (run:RUN) (mask lo:Nat) (ps:Array Tmp) (x y:Code) (tr:KTm) (zm:KZ) (nx mx:Nat) (K:K3) (gf:FuncId) (caps:KV):Prop :=
 chk (Nat.blt gf 1073741824) 247 <| WG caps fun cs=>vc (some ⟨.lp mask ps x y,.nl,.cons .nl (.ar 0 .unk (zlu tr))⟩) (enc nx) zm fun zm1=>fN (Nat.add nx 2) fun nx1=>zi E run lo gf (.yld nx::cs) zm1 nx1 mx fun _ zm2 nx2 mx2 =>
  oB zm2 nx fun kd sh v=>@Kind.rec (fun _=>Prop) (fun _=>BadN 202) (fun _=>BadN 202) (BadN 202) (fun _ _ _ _=>xN (fun st _=>stK st fun e=>vc none (enc nx) zm2 fun zm3=>K e tr zm3 nx2 mx2) (BadN 203) v) (BadN 202) kd
inductive BK where
 | len | cap | min | append | copy | bad | max | sdat | ustr | clr
def bk (b:Builtin):BK:=match b with
 | .len=>.len
 | .cap=>.cap
 | .min=>.min
 | .append=>.append
 | .copy=>.copy
 | .max=>.max
 | .unsafeSliceData=>.sdat
 | .unsafeString=>.ustr
 | .clear=>.clr
 | _=>.bad
def l1 {α:Type}(f:α→Prop) (l:List α):Prop:=@List.rec α (fun _=>Prop) (BadN 175) (fun x r _=>@List.rec α (fun _=>Prop) (f x) (fun _ _ _=>BadN 176) r) l
def l2 {α:Type}(f:α→α→Prop) (l:List α):Prop:=@List.rec α (fun _=>Prop) (BadN 177) (fun x r _=>l1 (f x) r) l
omit [KGl] in
theorem qI {α:Type}{f:α→Prop}{l:List α}(h:l1 f l):∃ x,l=[x]∧f x:=by
 match l,h with
 | [],h=>exact (show BadN 175 from h).elim
 | [x],h=>exact⟨x,rfl,h⟩
 | _::_::_,h=>exact (show BadN 176 from h).elim
omit [KGl] in
theorem qJ {α:Type}{f:α→α→Prop}{l:List α}(h:l2 f l):∃ x y,l=[x,y]∧f x y:=by
 match l,h with
 | [],h=>exact (show BadN 177 from h).elim
 | x::r,h =>
  obtain⟨y,rfl,h1⟩:=qI (show l1 (f x) r from h)
  exact⟨x,y,rfl,h1⟩
def ZA (P:Program) (lo:Nat) (τ:Nat→KV) (b:Builtin) (args:List Operand) (ts:List TypeId) (zm:KZ) (nx:Nat) (K:KT):Prop :=
 @BK.rec (fun _=>Prop) (l1 (fun x=>l1 (fun t=>zhG P t (kev τ x) zm nx K) ts) args) (l1 (fun x=>l1 (fun t=>zqC P t (kev τ x) zm nx K) ts) args) (l2 (fun x y=>zqE (kev τ x) (kev τ y) zm nx K) args)
  (l2 (fun x y=>l2 (fun t t'=>zgN lo P t t' (kev τ x) (kev τ y) zm nx K) ts) args) (l2 (fun x y=>l2 (fun t _=>zhl lo P t (kev τ x) (kev τ y) zm nx K) ts) args) (BadN 178) (l2 (fun x y=>zqG (kev τ x) (kev τ y) zm nx K) args) (l1 (fun x=>zhW (kev τ x) zm nx K) args) (l2 (fun x y=>l2 (fun pt _=>zhX P lo pt (kev τ x) (kev τ y) zm nx K) ts) args) (l1 (fun x=>l1 (fun t=>zbL lo P t (kev τ x) zm nx K) ts) args) (bk b)
def sK (mx:Nat) (K:KO):KT:=fun v zm nx up rd=>K v zm nx mx up rd false
abbrev OpK:=KEnv→RUN→Bool→Nat→(Nat→KV)→KZ→Nat→Nat→KO→Prop
def zu9 (fid:FuncId) (caps:KV) (l:List KV) (zm:KZ) (nx mx:Nat) (K:KO):Prop:=chk (Nat.blt fid 1073741824) 371 (Qc (l1 (fun x=>K x zm nx mx [] [] false) l) (BadN 372) caps)
def zva (p:List Step):Bool:=@List.rec Step (fun _=>Bool) true (fun _ _ _=>false) p
def asB (P:Program) (lo T:Nat) (p:KV) (zm:KZ) (nx mx:Nat) (K:KO) (id:Nat) (pth:List Step) (s:Shape):Prop :=
 os 389 (fun s2=>oB zm id fun kd sh v=>@Kind.rec (fun _=>Prop) (fun T2=>chk (nd (Nat.beq T2 T) (nd (Nat.ble lo id) (nd (zva pth) (nd (s2.beq s) (nd (sh.beq s) (ZD p s)))))) 383 (upB id (.box T) s p zm fun zm=>K (.bool true) zm nx mx [id] [] false)) (fun _=>BadN 384) (BadN 384) (fun _ _ _ _=>BadN 384) (BadN 384) kd) (z5 P T)
def asK (P:Program) (lo T PT:Nat) (l:List KV) (zm:KZ) (nx mx:Nat) (K:KO):Prop :=
 l2 (fun x y=>zaQ (fun f c=>chk (Nat.beq f (Nat.add T 2147483649)) 381 (xN (fun p r=>Qc (zaQ (fun g d=>chk (Nat.beq g (Nat.add PT 2147483649)) 382 (xN (fun q r2=>Qc (yz (asB P lo T p zm nx mx K) (BadN 385) q) (BadN 386) r2) (BadN 387) d)) (BadN 388) y) (BadN 386) r) (BadN 387) c)) (BadN 388) x) l
def zqo (l:List KV):Bool:=match l with
 | .fn f _::_=>Nat.beq f 2147483648
 | _=>false
def asC (E:KEnv) (run:RUN) (dr:Bool) (lo:Nat) (l:List KV) (zm:KZ) (nx mx:Nat) (K:KO) (fid:FuncId) (caps:KV) (T PT:Nat):Prop :=
 @Bool.rec (fun _=>Prop) (@Bool.rec (fun _=>Prop) (chk (Nat.blt fid 1073741824) 371 (Qc (asK E.P lo T PT l zm nx mx K) (BadN 372) caps)) (BadN 380) dr) (Zz E run dr lo l zm nx mx K fid caps) (zqo l)
def zn3 (E:KEnv) (run:RUN) (dr:Bool) (lo:Nat) (l:List KV) (zm:KZ) (nx mx:Nat) (K:KO) (fid:FuncId) (caps:KV):Prop :=
 @Bool.rec (fun _=>Prop) (@Option.rec (Nat×Nat) (fun _=>Prop) (Zz E run dr lo l zm nx mx K fid caps) (pr fun T PT=>asC E run dr lo l zm nx mx K fid caps T PT) (E.as fid)) (zu9 fid caps l zm nx mx K) (E.ex fid)
def zvb (c:Call):OpK:=fun E run dr lo τ zm nx mx K=>@Callee.rec (fun _=>Prop) (fun f=>zaQ (zn3 E run dr lo (c.args.toList.map (kev τ)) zm nx mx K) (zh2 (WH run dr lo (c.args.toList.map (kev τ)) zm nx mx K) (BadV (.call c)) (kev τ f)) (kev τ f)) (fun _ _=>BadV (.call c)) (fun b=>ZA E.P lo τ b c.args.toList c.argTypes.toList zm nx (sK mx K)) c.callee
def zvc (τ:Nat→KV) (l:Array (Nat×Operand)):List (Nat×KV):=l.toList.map fun x=>(x.1,kev τ x.2)
def kop (o:Op):OpK:=@Op.rec (fun _=>OpK) (fun x E run dr lo τ zm nx mx K=>K (kev τ x) zm nx mx [] [] false) (fun x E run dr lo τ zm nx mx K=>K (kev τ x) zm nx mx [] [] false) (fun c a b E run dr lo τ zm nx mx K=>zoh (kev τ c) (kev τ a) (kev τ b) zm nx (sK mx K)) (fun t E run dr lo τ zm nx mx K=>zg3 E.P t zm nx (sK mx K)) (fun t v E run dr lo τ zm nx mx K=>zvf E.P t (kev τ v) zm nx (sK mx K)) (fun t ps E run dr lo τ zm nx mx K=>zhP E.P t (zvc τ ps) zm nx (sK mx K)) (fun t n ps E run dr lo τ zm nx mx K=>kBS E.P t n (zvc τ ps) zm nx (sK mx K)) (fun t m k v E run dr lo τ zm nx mx K=>zqR lo E.P t (kev τ m) (kev τ k) (kev τ v) zm nx (sK mx K)) (fun t a E run dr lo τ zm nx mx K=>zn7 E.P t (kev τ a) zm nx (sK mx K)) (fun t a v E run dr lo τ zm nx mx K=>zg6 lo E.P t (kev τ a) (kev τ v) zm nx (sK mx K)) (fun g E run dr lo τ zm nx mx K=>BadV (.ready g)) (fun g E run dr lo τ zm nx mx K=>BadV (.waits g)) (fun x E run dr lo τ zm nx mx K=>zvg (kev τ x) zm nx (sK mx K)) (fun op t x y t2 E run dr lo τ zm nx mx K=>zou E.sc E.P op t (zaI x||zaI y) (kev τ x) (kev τ y) zm nx (sK mx K)) (fun op t x E run dr lo τ zm nx mx K=>kUn op (kev τ x) zm nx (sK mx K)) (fun s d x E run dr lo τ zm nx mx K=>zhY lo E.P s d (kev τ x) zm nx (sK mx K)) (fun d x E run dr lo τ zm nx mx K=>zvO E.P d (kev τ x) zm nx (sK mx K)) (fun t x E run dr lo τ zm nx mx K=>zvx E.P t (kev τ x) zm nx (sK mx K)) (fun f a c E run dr lo τ zm nx mx K=>QL f (a.toList.map (kev τ)) (c.toList.map (kev τ)) zm nx (sK mx K)) (fun t r E run dr lo τ zm nx mx K=>zdE r zm nx (sK mx K)) (fun t s E run dr lo τ zm nx mx K=>BadV (.makeChan t s)) (fun t l c E run dr lo τ zm nx mx K=>zoq E.P t true (kev τ l) (kev τ c) zm nx (sK mx K)) (fun t x l h m E run dr lo τ zm nx mx K=>zdr lo E.P t (kev τ x) (l.map (kev τ)) (h.map (kev τ)) (m.map (kev τ)) zm nx (sK mx K)) (fun t x f E run dr lo τ zm nx mx K=>zg8 E.P t (kev τ x) f zm nx (sK mx K)) (fun t x f E run dr lo τ zm nx mx K=>zdM E.P t (kev τ x) f zm nx (sK mx K)) (fun t x i E run dr lo τ zm nx mx K=>zhb E.P t (kev τ x) (kev τ i) zm nx (sK mx K)) (fun t x i E run dr lo τ zm nx mx K=>zdL E.P t (kev τ x) (kev τ i) zm nx (sK mx K)) (fun t x i c E run dr lo τ zm nx mx K=>zon E.P t c (kev τ x) (kev τ i) zm nx (sK mx K)) (fun t m k v E run dr lo τ zm nx mx K=>zqR lo E.P t (kev τ m) (kev τ k) (kev τ v) zm nx (sK mx K)) (fun t m k E run dr lo τ zm nx mx K=>BadV (.mapEntry t m k)) (fun t m s v E run dr lo τ zm nx mx K=>BadV (.entryStore t m s v)) (fun t x E run dr lo τ zm nx mx K=>BadV (.range t x)) (fun i s E run dr lo τ zm nx mx K=>BadV (.next i s)) (fun i E run dr lo τ zm nx mx K=>BadV (.entry i)) (fun x t a c E run dr lo τ zm nx mx K=>BadV (.typeAssert x t a c)) (fun x k E run dr lo τ zm nx mx K=>zaE (kev τ x) k zm nx (sK mx K)) zvb (fun c E run dr lo τ zm nx mx K=>BadV (.go c)) (fun c E run dr lo τ zm nx mx K=>BadV (.defer c)) (fun x E run dr lo τ zm nx mx K=>BadV (.panic x)) (fun c x E run dr lo τ zm nx mx K=>BadV (.send c x)) (fun t c o E run dr lo τ zm nx mx K=>BadV (.recv t c o)) (fun c b E run dr lo τ zm nx mx K=>BadV (.select c b)) o
def zBa (E:KEnv) (run:RUN) (ops:List Oper) (lo:Nat) (o:Oper) (τ:Nat→KV) (zm:KZ) (nx mx:Nat) (K:(Nat→KV)→KZ→Nat→Nat→Prop):Prop :=
 zgS ops o.guard τ (fun τ=>kop o.op E run false lo τ zm nx mx fun v zm nx mx _ _ _=>y3 o.dst v τ fun τ=>K τ zm nx mx) (fun τ=>y3 o.dst (.tup .nl) τ fun τ=>K τ zm nx mx)
def zay (E:KEnv) (run:RUN) (ops:List Oper) (lo:Nat) (l:List Oper):(Nat→KV)→KZ→Nat→Nat→((Nat→KV)→KZ→Nat→Nat→Prop)→Prop :=
 @List.rec Oper (fun _=>(Nat→KV)→KZ→Nat→Nat→((Nat→KV)→KZ→Nat→Nat→Prop)→Prop) (fun τ zm nx mx K=>K τ zm nx mx) (fun o _ ih τ zm nx mx K=>zBa E run ops lo o τ zm nx mx fun τ zm nx mx=>ih τ zm nx mx K) l
inductive KTE where
 | mk (i:Nat) (o:Oper) (lo hi:Nat) (up rd:List Nat) (all:Bool)
def KTE.i (z:KTE):Nat:=@KTE.rec (fun _=>Nat) (fun i _ _ _ _ _ _=>i) z
def KTE.o (z:KTE):Oper:=@KTE.rec (fun _=>Oper) (fun _ o _ _ _ _ _=>o) z
def KTE.lo (z:KTE):Nat:=@KTE.rec (fun _=>Nat) (fun _ _ l _ _ _ _=>l) z
def KTE.hi (z:KTE):Nat:=@KTE.rec (fun _=>Nat) (fun _ _ _ h _ _ _=>h) z
def KTE.up (z:KTE):List Nat:=@KTE.rec (fun _=>List Nat) (fun _ _ _ _ u _ _=>u) z
def KTE.rd (z:KTE):List Nat:=@KTE.rec (fun _=>List Nat) (fun _ _ _ _ _ r _=>r) z
def KTE.all (z:KTE):Bool:=@KTE.rec (fun _=>Bool) (fun _ _ _ _ _ _ a=>a) z
def zqp (l:List Nat):Bool:=@List.rec Nat (fun _=>Bool) true (fun _ _ _=>false) l
def orB (a b:Bool):Bool:=@Bool.rec (fun _=>Bool) b true a
def WI (f:Nat→Bool) (l:List Nat):Bool:=@List.rec Nat (fun _=>Bool) false (fun x _ ih=>orB (f x) ih) l
def KTE.ro (z:KTE):Bool:=nd (zqp z.up) (Nat.beq z.lo z.hi)
def KTE.inact (z:KTE):Bool:=nd z.ro (nd (zqp z.rd) (!z.all))
def zft (z:KTE) (id:Nat):Bool:=nd (Nat.ble z.lo id) (Nat.ble (Nat.succ id) z.hi)
def kin (z:KTE) (id:Nat):Bool:=orB (WI (fun j=>Nat.beq j id) z.up) (zft z id)
def krd (z:KTE) (id:Nat):Bool:=orB (WI (fun j=>Nat.beq j id) z.rd) (nd z.all (Nat.blt id z.lo))
def Xl (z w:KTE):Bool :=
 orB (WI (fun id=>orB (kin z id) (krd z id)) w.up) (orB (WI (kin z) w.rd) (orB (WI (zft w) z.up) (orB (WI (zft w) z.rd) (orB (nd (Nat.ble (Nat.succ z.lo) w.hi) (Nat.ble (Nat.succ w.lo) z.hi))
  (orB (nd z.all (nd (Nat.blt w.lo w.hi) (Nat.blt w.lo z.lo))) (orB (nd w.all (WI (fun id=>Nat.blt id w.lo) z.up)) (nd w.all (nd (Nat.blt z.lo z.hi) (Nat.blt z.lo w.lo)))))))))
def zaz (ops:Array Oper) (o:Oper) (k:Nat):Bool:=@Nat.rec (fun _=>Bool) (xT ops 6 o 0) (fun p _=>xT ops 6 o (Nat.succ p)) k
def zdw (ops:Array Oper) (z w:KTE) (o:Oper) (k:Nat):Bool:=@Bool.rec (fun _=>Bool) (@Bool.rec (fun _=>Bool) (orB (zaz ops o k) (!Xl z w)) true (nd z.ro w.ro)) true w.inact
def agD (ops:Array Oper) (z:KTE) (o:Oper) (l:List KTE):Bool:=@List.rec KTE (fun _=>Bool) true (fun w _ ih=>nd ih (@KTE.rec (fun _=>Bool) (fun k o' lo hi up rd all=>zdw ops z (.mk k o' lo hi up rd all) o k) w)) l
def XN (ops:Array Oper) (l:List KTE):Bool:=@List.rec KTE (fun _=>Bool) true (fun z r ih=>nd ih (@KTE.rec (fun _=>Bool) (fun i o lo hi up rd all=>@Bool.rec (fun _=>Bool) (agD ops (.mk i o lo hi up rd all) o r) true (KTE.inact (.mk i o lo hi up rd all))) z)) l
def agS (ops:Array Oper) (o:Oper):List Oper→Bool
 | []=>true
 | o'::r=>nd (agS ops o r) (xd o r.length||!zbD o o' ops)
def ww (ops:Array Oper):List Oper→Bool
 | []=>true
 | o::r=>nd (ww ops r) (nd (o.after.all fun e=>!(Region.binds .any e)||decide (e.on < r.length)) (agS ops o r))
def zn4 (ops:Array Oper):Bool:=ww ops ops.toList.reverse
def zBb (E:KEnv) (run:RUN) (ops:List Oper) (lo:Nat) (o:Oper) (i:Nat) (τ:Nat→KV) (zm:KZ) (nx mx:Nat) (K:(Nat→KV)→KZ→Nat→Nat→KTE→Prop):Prop :=
 zgS ops o.guard τ (fun τ=>kop o.op E run true lo τ zm nx mx fun v zm nx' mx up rd all=>y3 o.dst v τ fun τ=>K τ zm nx' mx (.mk i o nx nx' up rd all)) (fun τ=>y3 o.dst (.tup .nl) τ fun τ=>K τ zm nx mx (.mk i o nx nx [] [] false))
def ZB (E:KEnv) (run:RUN) (ops:List Oper) (lo:Nat) (l:List Oper):Nat→(Nat→KV)→KZ→Nat→Nat→List KTE→((Nat→KV)→KZ→Nat→Nat→List KTE→Prop)→Prop :=
 @List.rec Oper (fun _=>Nat→(Nat→KV)→KZ→Nat→Nat→List KTE→((Nat→KV)→KZ→Nat→Nat→List KTE→Prop)→Prop) (fun _ τ zm nx mx zs K=>K τ zm nx mx zs) (fun o _ ih i τ zm nx mx zs K=>zBb E run ops lo o i τ zm nx mx fun τ zm nx mx z=>zW (Nat.succ i) fun i=>ih i τ zm nx mx (z::zs) K) l
abbrev CdK:=KEnv→RUN→Nat→Nat→KTm→KZ→Nat→Nat→K3→Prop
def zlv (run:RUN) (mask lo:Nat) (b:Code) (K:K3) (e:Exit) (tr:KTm) (zm:KZ) (nx mx:Nat):Prop:=match e with
 | .normal=>run mask lo b tr zm nx mx K
 | e=>K e tr zm nx mx
def zvd (id:Nat) (K:K3) (e:Exit) (tr:KTm) (zm:KZ) (nx mx:Nat):Prop:=match e with
 | .exit i=>@Bool.rec (fun _=>Prop) (K (.exit i) tr zm nx mx) (K .normal tr zm nx mx) (Nat.beq i id)
 | e=>K e tr zm nx mx
def zg0 (K:K3) (e:Exit) (tr:KTm) (zm:KZ) (nx mx:Nat):Prop:=match e with
 | .goto _=>BadN 11
 | e=>K e tr zm nx mx
def zBc (ops:Array Oper):CdK:=fun E run mask lo tr zm nx mx K=>zay E run ops.toList lo ops.toList (zn tr) zm nx mx fun τ zm nx mx=>js mask τ ops.toList tr fun tr=>K .normal tr zm nx mx
def WJ (ops:Array Oper):CdK:=fun E run mask lo tr zm nx mx K=>chk (zn4 ops) 180 (ZB E run ops.toList lo ops.toList 0 (zn tr) zm nx mx [] fun τ zm nx mx zs=>chk (XN ops zs) 181 (js mask τ ops.toList tr fun tr=>K .normal tr zm nx mx))
def QD (o:Oper):Bool:=match o.op,o.guard with
 | .call ⟨.value _,_,_⟩,none=>true
 | _,_=>false
def qK (ops:Array Oper) (o:Oper) (n:Nat):Bool:=nd (@Nat.rec (fun _=>Bool) true (fun k ih=>nd ih (xT ops 6 o k)) n) (o.after.all fun e=>!(Region.binds .any e)||decide (e.on < n))
def zO (l:List Oper):List Oper:=l.dropLast
def QE (l:List Oper):Option Oper:=l.getLast?
def zn5 (ops:Array Oper) (o:Oper):CdK:=fun E run mask lo tr zm nx mx K=>chk (nd (ww ops (zO ops.toList).reverse) (qK ops o (zO ops.toList).length)) 180 (ZB E run ops.toList lo (zO ops.toList) 0 (zn tr) zm nx mx [] fun τ zm nx mx zs=>chk (XN ops zs) 181 (kop o.op E run false lo τ zm nx mx fun v zm nx mx _ _ _=>y3 o.dst v τ fun τ=>js mask τ ops.toList tr fun tr=>K .normal tr zm nx mx))
def zg1 (l:List Oper):Option Oper:=l.dropLast.getLast?
def zn6 (o:Oper):Bool:=match o.guard with
 | none=>true
 | _=>false
def QF (ops:Array Oper) (p o:Oper) (n:Nat):Bool:=nd (QD p) (nd (zn6 o) (nd (qK ops p n) (nd (xd o n) (o.after.all fun e=>!(Region.binds .any e)||decide (e.on < n + 1)))))
def WL (ops:Array Oper) (p o:Oper):CdK:=fun E run mask lo tr zm nx mx K=>chk (ww ops (zO (zO ops.toList)).reverse) 180 (ZB E run ops.toList lo (zO (zO ops.toList)) 0 (zn tr) zm nx mx [] fun τ zm nx mx zs=>chk (XN ops zs) 181 (kop p.op E run false lo τ zm nx mx fun v zm nx mx _ _ _=>y3 p.dst v τ fun τ=>kop o.op E run false lo τ zm nx mx fun v zm nx mx _ _ _=>y3 o.dst v τ fun τ=>js mask τ ops.toList tr fun tr=>K .normal tr zm nx mx))
def zg2 (ops:Array Oper):CdK:=@Option.rec Oper (fun _=>CdK) (WJ ops) (fun o=>@Bool.rec (fun _=>CdK) (@Option.rec Oper (fun _=>CdK) (WJ ops) (fun p=>@Bool.rec (fun _=>CdK) (WJ ops) (WL ops p o) (QF ops p o (zO (zO ops.toList)).length)) (zg1 ops.toList)) (zn5 ops o) (nd (QD o) (qK ops o (zO ops.toList).length))) (QE ops.toList)
def zve (c:Code):CdK:=@Code.rec (fun _=>CdK) (fun _ _ _ _ tr zm nx mx K=>K .normal tr zm nx mx) (fun _ ops draw=>@Bool.rec (fun _=>CdK) (zBc ops) (zg2 ops) draw)
 (fun a b _ _ _ run mask lo tr zm nx mx K=>run mask lo a tr zm nx mx (zlv run mask lo b K)) (fun c x y _ _ _ run mask lo tr zm nx mx K=>zgU c tr fun b tr=>@Bool.rec (fun _=>Prop) (run mask lo y tr zm nx mx K) (run mask lo x tr zm nx mx K) b)
 (fun id b _ _ run mask lo tr zm nx mx K=>run mask lo b tr zm nx mx (zvd id K)) (fun b _ _ run mask lo tr zm nx mx K=>run mask lo b tr zm nx mx (zlv run mask lo (.loop b) K))
 (fun f ps x y _ _ E run mask lo tr zm nx mx K=>zaQ (zu8 E run mask lo ps x y tr zm nx mx K) (BadN 12) (kev (zn tr) f)) (fun i _ _ _ _ tr zm nx mx K=>K (.exit i) tr zm nx mx) (fun b _ _ run mask lo tr zm nx mx K=>run mask lo b tr zm nx mx (zg0 K)) (fun _ _ _ _ _ tr zm nx mx K=>K .normal tr zm nx mx)
 (fun _ _ _ _ _ _ _ _ _ _=>BadN 13) (fun _ _ _ _ tr zm nx mx K=>K .ret tr zm nx mx) (fun _ _ _ _ _ _ _ _ _ _=>BadN 14) c
def zj (E:KEnv) (fuel:Nat):RUN:=@Nat.rec (fun _=>RUN) (fun _ _ _ _ _ _ _ _=>BadN 15) (fun _ run mask lo c tr zm nx mx K=>zve c E run mask lo tr zm nx mx K) fuel
omit [KGl] in
theorem jQ {tr:KTm}{v:KV}{t d:Nat}:zn (set v (enc d) tr) t=if t=d then v else zn tr t:=Xh _ _ _ _ _
omit [KGl] in
theorem zbM (t:Nat):zn .e t=.unk:=XL _ _
def INV (mask:Nat) (tr:KTm):Prop:=∀ t,xP mask t=false→(zn tr t).v=.unk
theorem Va {mask:Nat}{τ:Nat→KV}:∀(ops:List Oper) (tr:KTm) (K:KTm→Prop),js mask τ ops tr K→∃ tr',K tr'∧(∀ t,zn tr' t=zn tr t∨(xP mask t=true∧zn tr' t=τ t))∧∀ o∈ops,∀ d,o.dst=some d→xP mask d=true→zn tr' d=τ d
 | [],tr,K,h=>⟨tr,h,fun t=>.inl rfl,by intro o ho; cases ho⟩
 | o::ops,tr,K,h=>by
  have h0:@Option.rec Tmp (fun _=>Prop) (js mask τ ops tr K) (fun d=>@Bool.rec (fun _=>Prop) (js mask τ ops tr K) (fV (τ d) fun v=>vc v (enc d) tr fun tr=>js mask τ ops tr K) (xP mask d)) o.dst:=h
  cases hd:o.dst with
  | none =>
   rw[hd] at h0
   obtain⟨tr',h1,h2,h3⟩:=Va ops tr K h0
   refine⟨tr',h1,h2,fun o' ho' d hd' hk=>?_⟩
   rcases List.mem_cons.1 ho' with rfl | ho'
   ·rw[hd] at hd'; cases hd'
   ·exact h3 o' ho' d hd' hk
  | some d =>
   rw[hd] at h0
   have h1:@Bool.rec (fun _=>Prop) (js mask τ ops tr K) (fV (τ d) fun v=>vc v (enc d) tr fun tr=>js mask τ ops tr K) (xP mask d):=h0
   cases hk:xP mask d with
   | false =>
    rw[hk] at h1
    obtain⟨tr',h2,h3,h4⟩:=Va ops tr K h1
    refine⟨tr',h2,h3,fun o' ho' d' hd' hk'=>?_⟩
    rcases List.mem_cons.1 ho' with rfl | ho'
    ·rw[hd] at hd'; cases hd'; rw[hk] at hk'; cases hk'
    ·exact h4 o' ho' d' hd' hk'
   | true =>
    rw[hk] at h1
    have h1:fV (τ d) (fun v=>vc v (enc d) tr fun tr=>js mask τ ops tr K):=h1
    rw[xC,xz] at h1
    obtain⟨tr',h2,h3,h4⟩:=Va ops _ K h1
    have hdd:zn tr' d=τ d:=by
     rcases h3 d with h | ⟨_,h⟩
     ·rw[h,jQ,if_pos rfl]
     ·exact h
    refine⟨tr',h2,fun t=>?_,fun o' ho' d' hd' hk'=>?_⟩
    ·by_cases ht:t=d
     ·subst ht; exact .inr ⟨hk,hdd⟩
     ·rcases h3 t with h | h
      ·left; rw[h,jQ,if_neg ht]
      ·exact .inr h
    ·rcases List.mem_cons.1 ho' with rfl | ho'
     ·rw[hd] at hd'; cases hd'; exact hdd
     ·exact h4 o' ho' d' hd' hk'
def J6 (ops:List Oper) (tr:KTm) (τ:Nat→KV):Prop:=∀ t,(∃ o∈ops,o.dst=some t)∨(τ t).v=(zn tr t).v
theorem Vb {mask:Nat}{τ:Nat→KV}{ops:List Oper}{tr:KTm}{K:KTm→Prop}(h:js mask τ ops tr K) (hi:INV mask tr) (hl:J6 ops tr τ):∃ tr',K tr'∧INV mask tr'∧zln (tv' τ) (tv' (zn tr')):=by
 obtain⟨tr',h1,h2,h3⟩:=Va ops tr K h
 refine⟨tr',h1,fun t ht=>?_,fun t x C hr=>?_⟩
 ·rcases h2 t with h | ⟨h,_⟩
  ·rw[h]; exact hi t ht
  ·rw[ht] at h; cases h
 ·show R C (zn tr' t).v (.val x)
  replace hr:R C (τ t).v (.val x):=hr
  cases hk:xP mask t with
  | false =>
   rcases h2 t with h | ⟨h,_⟩
   ·rw[h,hi t hk]; trivial
   ·rw[hk] at h; cases h
  | true =>
   rcases hl t with ⟨o,ho,hd⟩ | hl
   ·rw[h3 o ho t hd hk]; exact hr
   ·rcases h2 t with h | ⟨_,h⟩
    ·rw[h,←hl]; exact hr
    ·rw[h]; exact hr
theorem yX {d:Option Tmp}{v:KV}{τ:Nat→KV}{K:(Nat→KV)→Prop}(h:y3 d v τ K):∃ τ',K τ'∧tv' τ'=v8 d v.v (tv' τ)∧∀ t,d=some t∨τ' t=τ t:=by
 cases d with
 | none=>exact⟨τ,h,rfl,fun t=>.inr rfl⟩
 | some d =>
  have h0:fV v (fun v=>K fun t=>@Bool.rec (fun _=>KV) (τ t) v (Nat.beq t d)):=h
  rw[xC] at h0
  refine⟨_,h0,?_,fun t=>?_⟩
  ·funext t
   show (@Bool.rec (fun _=>KV) (τ t) v (Nat.beq t d)).v=if t=d then v.v else (τ t).v
   by_cases ht:t=d
   ·subst ht; rw[Nat.beq_refl,if_pos rfl]
   ·have:Nat.beq t d=false:=by rw[←Bool.not_eq_true,Nat.beq_eq]; exact ht
    rw[this,if_neg ht]
  ·by_cases ht:t=d
   ·subst ht; exact .inl rfl
   ·have:Nat.beq t d=false:=by rw[←Bool.not_eq_true,Nat.beq_eq]; exact ht
    right
    show @Bool.rec (fun _=>KV) (τ t) v (Nat.beq t d)=τ t
    rw[this]
theorem zbN {b:Bool}{y n y' n':Prop}(h:zbP b y n y' n'):(b=true∧(y∨y'))∨(b=false∧(n∨n')):=by
 unfold zbP at h
 cases hc:clB<;>cases b<;>rw[hc] at h
 ·exact .inr ⟨rfl,.inr h⟩
 ·exact .inl ⟨rfl,.inr h⟩
 ·exact .inr ⟨rfl,.inl h⟩
 ·exact .inl ⟨rfl,.inl h⟩
omit [KGl] in
theorem wY {d:Nat}{v:KV}{τ:Nat→KV}(h:τ d=v):J7 d v τ=τ:=by
 funext t
 unfold J7
 by_cases ht:t=d
 ·subst ht; rw[Nat.beq_refl]; exact h.symm
 ·have:Nat.beq t d=false:=by rw[←Bool.not_eq_true,Nat.beq_eq]; exact ht
  rw[this]
theorem zA8 {want:Bool}{d:Nat}{τ:Nat→KV}{y n:(Nat→KV)→Prop}(h:gV (τ d) want d τ y n):(τ d=.bool want∧y τ)∨((τ d=.bool (!want)∨τ d=.tup .nl)∧n τ):=by
 rcases xI h with ⟨b,hb,h1⟩ | ⟨_,h1⟩
 ·cases want with
  | true =>
   have h2:zbP b (y τ) (n τ) (y (J7 d (.bool true) τ)) (n (J7 d (.bool false) τ)):=h1
   rcases zbN h2 with ⟨rfl,h3⟩ | ⟨rfl,h3⟩
   ·rw[wY hb,or_self] at h3; exact .inl ⟨hb,h3⟩
   ·rw[wY hb,or_self] at h3; exact .inr ⟨.inl hb,h3⟩
  | false =>
   have h2:zbP b (n τ) (y τ) (n (J7 d (.bool true) τ)) (y (J7 d (.bool false) τ)):=h1
   rcases zbN h2 with ⟨rfl,h3⟩ | ⟨rfl,h3⟩
   ·rw[wY hb,or_self] at h3; exact .inr ⟨.inl hb,h3⟩
   ·rw[wY hb,or_self] at h3; exact .inl ⟨hb,h3⟩
 ·rcases ya h1 with ⟨l,hl,h2⟩ | ⟨_,h2⟩
  ·rcases jc h2 with ⟨rfl,h3⟩ | ⟨_,h3⟩
   ·exact .inr ⟨.inr hl,h3⟩
   ·exact h3.elim
  ·exact h2.elim
theorem zgP {ops:Array Oper}{o:Oper}{τ:Nat→KV}{y n:(Nat→KV)→Prop}(h:zgS ops.toList o.guard τ y n):(jl (tv' τ) ops o true∧y τ)∨(jl (tv' τ) ops o false∧n τ):=by
 cases hgd:o.guard with
 | none =>
  rw[hgd] at h
  exact .inl ⟨⟨fun C a N _=>by simp [Region.wanted,hgd],by unfold yq; rw[hgd]; rfl⟩,h⟩
 | some jw =>
  obtain⟨j,want⟩:=jw
  rw[hgd] at h
  obtain⟨d,hd0,hg⟩:=xg (show os 4 (fun d=>gV (τ d) want d τ y n) (zdg ops.toList j) from h)
  have hd:(ops[j]?).bind (·.dst)=some d:=by rw[←zgm]; exact hd0
  have rd:∀ {C a N} {b:Bool},GT C (tv' τ) a N→τ d=.bool b→a.tmps[d]?=some (.bool b):=by
   intro C a N b ht hx
   have hr:=ht.tv d
   have hval:a.tmps.getD d undef=.bool b:=by
    have:tv' τ d=.bool b:=by show (τ d).v=_; rw[hx]; rfl
    rw[this] at hr; exact hr
   rw[Array.getD_eq_getD_getElem?] at hval
   cases hx:a.tmps[d]? with
   | none=>rw[hx] at hval; simp [undef] at hval
   | some y=>rw[hx] at hval; simpa using hval
  rcases zA8 hg with ⟨hx,hy⟩ | ⟨hx,hn⟩
  ·refine .inl ⟨⟨fun C a N ht=>by simp [Region.wanted,hgd,yielded,hd,rd ht hx],?_⟩,hy⟩
   unfold yq; rw[hgd]
   exact⟨d,hd,.inl ⟨by show (τ d).v=_; rw[hx]; rfl,rfl⟩⟩
  ·refine .inr ⟨⟨fun C a N ht=>?_,?_⟩,hn⟩
   ·rcases hx with hx | hx
    ·cases want<;>simp [Region.wanted,hgd,yielded,hd,rd ht hx]
    ·have hr:=ht.tv d
     have:tv' τ d=.tup .nl:=by show (τ d).v=_; rw[hx]; rfl
     rw[this] at hr
     obtain⟨cs,h2,h3⟩:=hr
     have h3':cs.toList=[]:=h3
     have hval:a.tmps.getD d undef=.tuple #[]:=by rw[h2]; congr; simpa using h3'
     rw[Array.getD_eq_getD_getElem?] at hval
     cases hx:a.tmps[d]? with
     | none=>simp [Region.wanted,hgd,yielded,hd,hx]
     | some y=>rw[hx] at hval; simp only[Option.getD_some] at hval; subst hval; simp [Region.wanted,hgd,yielded,hd,hx]
   ·unfold yq; rw[hgd]
    refine⟨d,hd,.inr ⟨?_,rfl⟩⟩
    rcases hx with hx | hx
    ·left; show (τ d).v=_; rw[hx]; rfl
    ·right; show (τ d).v=_; rw[hx]; rfl
theorem zlp {c:Operand}{tr:KTm}{f:Bool→KTm→Prop}(h:zgU c tr f):∃ b tr',opv Gl.G (tv' (zn tr)) c=.bool b∧f b tr'∧∀ t,zn tr' t=zn tr t:=by
 have key:∀ v:KV,zgT v tr f→∃ b,v=.bool b∧f b tr:=fun v h=>by
  rcases xI h with ⟨b,hb,h1⟩ | ⟨_,h1⟩
  ·cases b
   ·exact⟨false,hb,h1⟩
   ·exact⟨true,hb,h1⟩
  ·exact h1.elim
 cases c with
 | tmp t =>
  rcases xI (show jo _ (BadN 2) (zn tr t) from h) with ⟨b,hb,h1⟩ | ⟨_,h1⟩
  ·have hv:opv Gl.G (tv' (zn tr)) (.tmp t)=.bool b:=by show (zn tr t).v=_; rw[hb]; rfl
   have hsame:∀ t',zn (set (.bool b) (enc t) tr) t'=zn tr t':=fun t'=>by
    rw[jQ]
    by_cases ht:t'=t
    ·subst ht; rw[if_pos rfl,hb]
    ·rw[if_neg ht]
   rcases zbN h1 with ⟨rfl,h3⟩ | ⟨rfl,h3⟩
   ·rcases h3 with h3 | h3
    ·exact⟨true,tr,hv,h3,fun _=>rfl⟩
    ·rw[xz] at h3; exact⟨true,_,hv,h3,hsame⟩
   ·rcases h3 with h3 | h3
    ·exact⟨false,tr,hv,h3,fun _=>rfl⟩
    ·rw[xz] at h3; exact⟨false,_,hv,h3,hsame⟩
  ·exact h1.elim
 | const v=>obtain⟨b,hb,h1⟩:=key _ h; exact⟨b,tr,by rw[←zK (zn tr) (.const v)]; show (Xm v).v=_; rw[hb]; rfl,h1,fun _=>rfl⟩
 | global g=>obtain⟨b,hb,h1⟩:=key _ h; exact⟨b,tr,by show (KGl.g g).v=_; rw[hb]; rfl,h1,fun _=>rfl⟩
 | func g=>exact (show BadN 3 from h).elim
section
variable {P:Program}
theorem znV {τ:Nat→KV}{zm:KZ}{r:ResultVar}{K:KV→Prop}(h:rvO P τ zm r K):∃ v,K v∧RVal P (tv' τ) (am zm) r v.v:=by
 cases r with
 | tmp t=>exact⟨τ t,h,rfl⟩
 | cell a t =>
  obtain⟨s,h1,h2⟩:=xg (show os 172 (fun s=>rvC s (τ a) zm K) (ldS P t) from h)
  obtain⟨hs,d,hd⟩:=zg5 h1
  rcases xY h2 with ⟨id,p,s',hp,h3⟩ | ⟨_,h3⟩
  ·obtain⟨k,sh,v,hb,h4⟩:=xL h3
   obtain⟨h5,h6⟩:=ze h4
   rw[xC] at h6
   simp only[zd] at h5
   obtain rfl:=Shape.eq_of_beq h5.2.2
   exact⟨_,h6,s',d,id,p,_,hs,hd,by show (τ a).v=_; rw[hp]; rfl,zJ hb,by show (Blk.mk k sh v.v).alive=true; rw[xk]; exact h5.1,(v4 p v h5.2.1).symm⟩
  ·exact h3.elim
theorem znW {τ:Nat→KV}{zm:KZ}:∀(l:List ResultVar) (K:KV→Prop),rvL P τ zm l K→∃ v,K v∧RVals P (tv' τ) (am zm) l v.v
 | [],K,h=>⟨.nl,h,rfl⟩
 | r::l,K,h=>by
  obtain⟨x,h1,h2⟩:=znV (show rvO P τ zm r (fun x=>rvL P τ zm l fun w=>K (.cons x w)) from h)
  obtain⟨w,h3,h4⟩:=znW l _ h1
  exact⟨_,h3,x.v,w.v,rfl,h2,h4⟩
theorem znX {τ:Nat→KV}{zm:KZ}{l:List ResultVar}{K:KV→Prop}(h:rvA P τ zm l K):∃ v,K v∧RAll P (tv' τ) (am zm) l v.v:=by
 unfold rvA at h
 split at h
 ·exact znV h
 ·rename_i hne
  obtain⟨w,h1,h2⟩:=znW _ _ h
  refine⟨_,h1,?_⟩
  unfold RAll
  split
  ·exact (hne _ rfl).elim
  ·exact⟨w.v,rfl,h2⟩
theorem zbO {rs:List ResultVar}{K:KV→KZ→Nat→Nat→Prop}{e:Exit}{tr:KTm}{zm:KZ}{nx mx:Nat}(h:zfs P rs K e tr zm nx mx):(e=.normal∨e=.ret)∧∃ v,K v zm nx mx∧RAll P (tv' (zn tr)) (am zm) rs v.v:=by
 cases e with
 | normal=>exact⟨.inl rfl,znX h⟩
 | ret=>exact⟨.inr rfl,znX h⟩
 | _=>exact (show BadN 6 from h).elim
end
omit [KGl] in
theorem WD {mask:Nat}:∀(l:List KV) (i:Nat) (tr:KTm) (K:KTm→Prop),QA mask l i tr K→∃ tr',K tr'∧∀ t,zn tr' t=zn tr t∨(xP mask t=true∧i≤t∧t < i + l.length∧zn tr' t=l.getD (t - i) .unk)
 | [],i,tr,K,h=>⟨tr,h,fun t=>.inl rfl⟩
 | x::l,i,tr,K,h=>by
  have h0:@Bool.rec (fun _=>Prop) (QA mask l (Nat.succ i) tr K) (vc x (enc i) tr fun t=>QA mask l (Nat.succ i) t K) (xP mask i):=h
  cases hk:xP mask i with
  | false =>
   rw[hk] at h0
   obtain⟨tr',h1,h2⟩:=WD l (i + 1) tr K h0
   refine⟨tr',h1,fun t=>(h2 t).imp id ?_⟩
   rintro⟨q1,q2,q3,q4⟩
   refine⟨q1,by omega,by simp only[List.length_cons]; omega,?_⟩
   rw[q4,show t - i=(t - (i + 1)) + 1 by omega]; rfl
  | true =>
   rw[hk] at h0
   have h0:vc x (enc i) tr (fun t=>QA mask l (Nat.succ i) t K):=h0
   rw[xz] at h0
   obtain⟨tr',h1,h2⟩:=WD l (i + 1) _ K h0
   refine⟨tr',h1,fun t=>?_⟩
   rcases h2 t with h | ⟨q1,q2,q3,q4⟩
   ·rw[jQ] at h
    by_cases ht:t=i
    ·subst ht
     rw[if_pos rfl] at h
     exact .inr ⟨hk,Nat.le_refl _,by simp,by rw[h,Nat.sub_self]; rfl⟩
    ·rw[if_neg ht] at h; exact .inl h
   ·refine .inr ⟨q1,by omega,by simp only[List.length_cons]; omega,?_⟩
    rw[q4,show t - i=(t - (i + 1)) + 1 by omega]; rfl
omit [KGl] in
theorem zfq (n:Nat) (v:V):v.bel 0→v.bel n:=by
 induction v with
 | ptr id p s=>intro h; exact absurd h (Nat.not_lt_zero _)
 | row id e k=>intro h; exact absurd h (Nat.not_lt_zero _)
 | sl id p e off len cap=>intro h; exact absurd h (Nat.not_lt_zero _)
 | yld id=>intro h; exact absurd h (Nat.not_lt_zero _)
 | cons a b ih1 ih2=>intro h; exact⟨ih1 h.1,ih2 h.2⟩
 | arr k f ih=>intro h i hi; exact ih i (h i hi)
 | fn f c ih=>intro h; exact ih h
 | tup l ih=>intro h; exact ih h
 | _=>intro h; trivial
omit [KGl] in
theorem jm (n:Nat) (v:KV):zS n v=true→v.v.bel n∧∀(p:Pth) (z:V),z.bel n→(v.atv p z).bel n:=by
 induction v with
 | cons a b ih1 ih2 =>
  intro h
  obtain⟨h1,h2⟩:=zd.1 (show nd (zS n a) (zS n b)=true from h)
  exact⟨⟨(ih1 h1).1,(ih2 h2).1⟩,fun p z hz=>hz⟩
 | ar m d t ih1 ih2 =>
  intro h
  obtain⟨h1,h2⟩:=zd.1 (show nd (zS n d) (zS n t)=true from h)
  exact⟨fun i _=>(ih2 h2).2 _ _ (ih1 h1).1,fun p z hz=>hz⟩
 | tb a b c d ih1 ih2 ih3 ih4 =>
  intro h
  have h0:nd (zS n a) (nd (zS n b) (nd (zS n c) (zS n d)))=true:=h
  simp only[zd] at h0
  refine⟨trivial,fun p z hz=>?_⟩
  cases p with
  | nil=>exact hz
  | cons g p =>
   cases g
   ·exact (ih1 h0.1).2 p z hz
   ·exact (ih2 h0.2.1).2 p z hz
   ·exact (ih3 h0.2.2.1).2 p z hz
   ·exact (ih4 h0.2.2.2).2 p z hz
 | tn x a b c d ih0 ih1 ih2 ih3 ih4 =>
  intro h
  have h0:nd (zS n x) (nd (zS n a) (nd (zS n b) (nd (zS n c) (zS n d))))=true:=h
  simp only[zd] at h0
  refine⟨trivial,fun p z hz=>?_⟩
  cases p with
  | nil=>exact (ih0 h0.1).1
  | cons g p =>
   cases g
   ·exact (ih1 h0.2.1).2 p z hz
   ·exact (ih2 h0.2.2.1).2 p z hz
   ·exact (ih3 h0.2.2.2.1).2 p z hz
   ·exact (ih4 h0.2.2.2.2).2 p z hz
 | ptr id p s=>intro h; exact⟨xZ.1 (show Nat.blt id n=true from h),fun p z hz=>hz⟩
 | row id s k=>intro h; exact⟨xZ.1 (show Nat.blt id n=true from h),fun p z hz=>hz⟩
 | sl id p s off len cap=>intro h; exact⟨xZ.1 (show Nat.blt id n=true from h),fun p z hz=>hz⟩
 | fn f c ih=>intro h; exact⟨(ih h).1,fun p z hz=>hz⟩
 | yld id=>intro h; exact⟨xZ.1 (show Nat.blt id n=true from h),fun p z hz=>hz⟩
 | tup l ih=>intro h; exact⟨(ih h).1,fun p z hz=>hz⟩
 | pk k m x=>intro h; exact⟨fun i _=>trivial,fun p z hz=>hz⟩
 | clo x ih=>intro h; exact⟨zfq n _ (Ji x.v).1,fun p z hz=>hz⟩
 | fa m f ih=>intro h; exact⟨fun i hi=>(ih i (xE.1 (show qa m (fun i=>zS n (f i))=true from h) i hi)).1,fun p z hz=>hz⟩
 | _=>intro h; exact⟨trivial,fun p z hz=>hz⟩
end
end Go.K
namespace Go.K
open Go.Ab Go.RowKit Go.Y
noncomputable section
variable [KGl]
structure KFin (lo:Nat) (zm:KZ) (nx mx:Nat) (zm':KZ) (nx' mx':Nat):Prop where
 mb:MB (am zm') nx'
 nx:nx≤nx'
 mx:mx≤mx'
 low:∀ id,id < lo→am zm' id=am zm id
omit [KGl] in
theorem KFin.trans {lo nx mx nx' mx' nx2 mx2:Nat}{zm zm' zm2:KZ}(h:KFin lo zm nx mx zm' nx' mx') (k:KFin lo zm' nx' mx' zm2 nx2 mx2):KFin lo zm nx mx zm2 nx2 mx2 :=
 ⟨k.mb,Nat.le_trans h.nx k.nx,Nat.le_trans h.mx k.mx,fun id hid=>(k.low id hid).trans (h.low id hid)⟩
def jn (E:KEnv) (B:Nat) (r:RUN):Prop:=∀(mask lo:Nat) (c:Code) (tr:KTm) (zm:KZ) (nx mx:Nat) (K:K3) (N:Nat),r mask lo c tr zm nx mx K→cOk N c=true→MB (am zm) nx→lo≤nx→INV mask tr →
 ∃ e tr' zm' nx' mx',K e tr' zm' nx' mx'∧KFin lo zm nx mx zm' nx' mx'∧INV mask tr'∧GRuns E.P B c (tv' (zn tr)) (am zm) nx N e (tv' (zn tr')) (am zm') nx' mx'
def KCS (P:Program) (fid:FuncId) (s:zh):Prop:=(∃ fn,P.funcs[fid]?=some fn∧(fn.name == "runtime.NumGoroutine")=false∧fn.body.isNone=false) ∧
 ∀(l:List KV) (K:KV→Prop),s l K→∃ v,K v∧∀ B μ nx mx l0,Lend B μ l0 (l.map KV.v)→GCall P B fid l0 μ nx v.v μ nx mx
def qo (P:Program) (fid:FuncId) (s:zh):Prop:=(∃ fn,P.funcs[fid]?=some fn∧(fn.name == "runtime.NumGoroutine")=false∧fn.body.isNone=false) ∧
 ∀(l:List KV) (K:KV→Prop),s l K→∃ v,K v∧(xt l=true→∀ B μ nx mx,GCall P B fid (l.map KV.v) μ nx v.v μ nx mx)
def zvt (P:Program) (f T PT:Nat):Prop:=(∃ fn,P.funcs[f]?=some fn∧(fn.name == "runtime.NumGoroutine")=false∧fn.body.isNone=false) ∧
 ∀(B:Nat) (μ:Mem) (nx mx id:Nat) (s:Shape) (x y:V),μ id=some ⟨.box T,s,y⟩→z5 P T=some s→x.fits s=true→x.known=true →
  GCall P B f [.fn (T + 2147483649) (.cons x .nl),.fn (PT + 2147483649) (.cons (.ptr id [] s) .nl)] μ nx (.bool true) (upd μ id (some ⟨.box T,s,x⟩)) nx mx
structure KOk (E:KEnv):Prop where
 fns:FnsOk E.P
 ct:∀ f s,E.ct f=some s→KCS E.P f s
 gn:∀ g,vJ (Gl.G g)=true
 mixed:E.P.follows .mixedOrders=true
 ex:∀ f,E.ex f=true→zvP E.P f
 cb:∀ f s,E.cb f=some s→qo E.P f s:=by intro f s h; cases h
 as:∀ f T PT,E.as f=some (T,PT)→zvt E.P f T PT:=by intro f T PT h; cases h
section
variable {E:KEnv}{B:Nat}{run:RUN}
omit [KGl] in
theorem zvu {P:Program}{fid:FuncId}{x:Code×List ResultVar}(h:fnB P fid=some x):∃ fn,P.funcs[fid]?=some fn∧fn.body=some x.1∧x.2=fn.results.toList:=by
 unfold fnB at h
 split at h
 ·rename_i fn hf
  split at h
  ·rename_i c hc
   cases h
   exact⟨fn,hf,hc,rfl⟩
  ·cases h
 ·cases h
theorem vY (hr:jn E B run) (hE:KOk E) {lo:Nat}{fid:FuncId}{l:List KV}{zm:KZ}{nx mx:Nat}{K:KV→KZ→Nat→Nat→Prop}(h:zi E run lo fid l zm nx mx K) (hmb:MB (am zm) nx) (hlo:lo≤nx) :
  (∃ fn,E.P.funcs[fid]?=some fn∧(fn.name == "runtime.NumGoroutine")=false∧fn.body.isNone=false)∧∃ v zm' nx' mx',K v zm' nx' mx'∧KFin lo zm nx mx zm' nx' mx'∧GCall E.P B fid (l.map KV.v) (am zm) nx v.v (am zm') nx' mx':=by
 obtain⟨⟨c,rs⟩,h1,h2⟩:=xg h
 obtain⟨fn,hfn,hb,hrs⟩:=zvu h1
 obtain⟨hname,hcode⟩:=hE.fns.get hfn
 obtain⟨tr,h3,h4⟩:=WD l 0 .e _ (show QA (E.km fid) l 0 .e (fun tr=>run (E.km fid) lo c tr zm nx mx (zfs E.P rs K)) from h2)
 have hinv:INV (E.km fid) tr:=fun t ht=>by
  rcases h4 t with h | ⟨h,_⟩
  ·rw[h,zbM]; rfl
  ·rw[ht] at h; cases h
 have hco:cOk ((l.map KV.v).length + (fn.ntmps - (l.map KV.v).length)) c=true:=vx (by omega) (hcode c hb)
 obtain⟨e,tr',zm',nx',mx',h5,h6,_,h7⟩:=hr _ _ _ _ _ _ _ _ _ h3 hco hmb hlo hinv
 obtain⟨he,v,h8,h9⟩:=zbO h5
 refine⟨⟨fn,hfn,hname,by rw[hb]; rfl⟩,v,zm',nx',mx',h8,h6,GCall.body hfn hb ?_ h7 he (by rw[←hrs]; exact h9)⟩
 intro t x C hx
 show R C (zn tr t).v (.val x)
 rcases h4 t with h | ⟨_,_,h10,h11⟩
 ·rw[h,zbM]; trivial
 ·rw[h11,Nat.sub_zero]
  unfold zhV at hx
  rw[Nat.zero_add] at h10
  rw[if_pos (by simpa using h10)] at hx
  have:(l.map KV.v).getD t .unk=(l.getD t .unk).v:=by
   rw[List.getD_eq_getElem?_getD,List.getD_eq_getElem?_getD,List.getElem?_map,List.getElem?_eq_getElem h10]; rfl
  rw[this] at hx
  exact hx
omit [KGl] in
theorem WX (l:KV):∀(K:List KV→Prop),WG l K→∃ r,K r∧r.map KV.v=unL l.v:=by
 induction l with
 | cons a b ih1 ih2 =>
  intro K h
  obtain⟨r,h1,h2⟩:=ih2 _ (show WG b (fun l=>K (a::l)) from h)
  exact⟨_,h1,by rw[List.map_cons,h2]; rfl⟩
 | clo x ih =>
  intro K h
  refine⟨[],h,?_⟩
  rw[zvT]
  have h:=(Ji x.v).2.1
  generalize Xv x.v=w at h
  cases w<;>first | (cases h; done) | rfl
 | _=>intro K h; exact⟨[],h,rfl⟩
omit [KGl] in
theorem WY:∀(l r:List KV) (K:List KV→Prop),zat l r K→K (l++r)
 | [],r,K,h=>h
 | x::l,r,K,h=>WY l r _ (show zat l r (fun r=>K (x::r)) from h)
omit [KGl] in
theorem Vf (a b:Nat):a≤y4 a b∧b≤y4 a b:=by
 unfold y4
 cases h:Nat.ble a b with
 | true=>have:=Nat.le_of_ble_eq_true h; exact⟨this,Nat.le_refl _⟩
 | false =>
   have:¬ a≤b:=fun h1=>by rw[Nat.ble_eq_true_of_le h1] at h; cases h
   exact⟨Nat.le_refl _,by show b≤a; omega⟩
def zfz (E:KEnv) (B:Nat) (o:Oper) (τ:Nat→KV) (lo:Nat) (zm:KZ) (nx mx:Nat) (K:KO):Prop :=
 ∃ v zm' nx' mx' up rd al,K v zm' nx' mx' up rd al∧KFin lo zm nx mx zm' nx' mx'∧GOp E.P B o (tv' τ) (am zm) nx v.v (am zm') nx' mx'
def zlG (E:KEnv) (B:Nat) (o:Oper) (τ:Nat→KV) (lo:Nat) (zm:KZ) (nx mx:Nat) (K:KO):Prop :=
 ∃ v zm' nx' mx' up rd al,K v zm' nx' mx' up rd al∧KFin lo zm nx mx zm' nx' mx'∧∃ rd' e,GSt E.P B o (tv' τ) (am zm) (am zm') nx nx' v.v up rd' e∧(al=false→rd'=rd)∧(al=true→∀ id∈rd',id < nx)
omit [KGl] in
theorem zdD {m:Mem}{n lo:Nat}{e:Eff}(h1:lo≤n) (h2:∀ id∈e.up.map (·.1),lo≤id) (id:Nat) (hid:id < lo):put m n e id=m id:=by
 have:xf e n id=none:=yW (.inl (by omega)) fun x hx e1=>by
  have:=h2 x.1 (List.mem_map_of_mem hx)
  omega
 simp only[put,this]
theorem Out.seq {o:Oper}{τ:Nat→KV}{lo:Nat}{zm:KZ}{nx mx:Nat}{K:KO}(h:Out E.P B o τ lo zm nx (sK mx K)) (hmb:MB (am zm) nx) (hlo:lo≤nx):zfz E B o τ lo zm nx mx K:=by
 obtain⟨v,zm',nx',up,rd,e,h1,h2,rfl,rfl,rfl,h6,h7,h8,h9⟩:=h
 have hs:=GSt.of h7 h8
 have hm:=hs.mb hmb
 rw[←h6] at hm
 refine⟨v,zm',_,mx,_,_,false,h1,⟨hm,by omega,Nat.le_refl _,fun id hid=>by rw[h6]; exact zdD hlo h9 id hid⟩,?_⟩
 rw[←h2,h6]
 exact (hs.does hmb mx).op
theorem Out.drw {o:Oper}{τ:Nat→KV}{lo:Nat}{zm:KZ}{nx mx:Nat}{K:KO}(h:Out E.P B o τ lo zm nx (sK mx K)) (hmb:MB (am zm) nx) (hlo:lo≤nx):zlG E B o τ lo zm nx mx K:=by
 obtain⟨v,zm',nx',up,rd,e,h1,h2,rfl,rfl,rfl,h6,h7,h8,h9⟩:=h
 have hs:=GSt.of h7 h8
 have hm:=hs.mb hmb
 rw[←h6] at hm
 refine⟨v,zm',_,mx,_,_,false,h1,⟨hm,by omega,Nat.le_refl _,fun id hid=>by rw[h6]; exact zdD hlo h9 id hid⟩,e.rd,e,?_,fun _=>rfl,fun h=>by cases h⟩
 rw[←h2,h6]
 exact hs
theorem zfA (hr:jn E B run) (hE:KOk E) {lo:Nat}{fid:FuncId}{l:List KV}{zm:KZ}{nx mx:Nat}{K:KO}(h:QB E run false lo fid l zm nx mx K) (hmb:MB (am zm) nx) (hlo:lo≤nx) :
  (∃ fn,E.P.funcs[fid]?=some fn∧(fn.name == "runtime.NumGoroutine")=false∧fn.body.isNone=false)∧∃ v zm' nx' mx' up rd al,K v zm' nx' mx' up rd al∧KFin lo zm nx mx zm' nx' mx'∧GCall E.P B fid (l.map KV.v) (am zm) nx v.v (am zm') nx' mx':=by
 have h0:zi E run (@Nat.rec (fun _=>Nat) lo (fun _ _=>nx) (m0 (E.md fid))) fid l zm nx mx (zn0 (m0 (E.md fid)) zm nx K):=h
 cases hm:m0 (E.md fid) with
 | zero =>
  rw[hm] at h0
  obtain⟨hf,v,zm',nx',mx',h1,h2,h3⟩:=vY hr hE h0 hmb hlo
  exact⟨hf,v,zm',nx',mx',[],[],true,h1,h2,h3⟩
 | succ m =>
  rw[hm] at h0
  obtain⟨hf,v,zm',nx',mx',h1,h2,h3⟩:=vY hr hE h0 hmb (Nat.le_refl nx)
  obtain⟨h4,h5⟩:=ze (show chk (zS nx v) 173 (fN (y4 nx' mx') fun mx=>K v zm nx mx [] [] true) from h1)
  rw[zU] at h5
  have hmax:=Vf nx' mx'
  exact⟨hf,v,zm,nx,_,[],[],true,h5,⟨hmb,Nat.le_refl _,by have:=h2.mx; omega,fun _ _=>rfl⟩,h3.reset hE.gn hmb h2.low (jm nx v h4).1 h2.nx hmax.1 hmax.2⟩
theorem xB {P:Program}{fid:FuncId}{μ μ':Mem}{nx nx' mx':Nat}{o:Oper}{f:Operand}{args:Array Operand}{ts:Array TypeId}{τ:Nat→V}{L:List V}{v:V}(ho:o.op=.call ⟨.value f,args,ts⟩) (hf:FnArgs τ f args fid L)
  (hfn:∃ fn,P.funcs[fid]?=some fn∧(fn.name == "runtime.NumGoroutine")=false∧fn.body.isNone=false) (h:GCall P B fid L μ nx v μ' nx' mx'):GDoes P B o τ μ nx v μ' nx' mx':=by
 obtain⟨fn,h1,h2,h3⟩:=hfn
 exact GCall.does ho hf h1 h2 h3 h
theorem zhx {τ:Nat→KV}{args:Array Operand}{cs:List KV}{caps:KV}(hc:cs.map KV.v=unL caps.v):((args.toList.map (kev τ))++cs).map KV.v=args.toList.map (opv Gl.G (tv' τ))++unL caps.v:=by
 rw[List.map_append,w0,hc]
omit [KGl] in
theorem R.bel0 {C:Ctx}{B:Nat}{v:V}{m:M}(hb:v.bel 0) (h:R C v m):R (C.opened B) v m :=
 R.keep (C:=C.cut 0) (C':=C.opened B) ⟨fun id h=>absurd h.2 (Nat.not_lt_zero _),fun id h=>absurd h.2 (Nat.not_lt_zero _),fun id h=>absurd h.2 (Nat.not_lt_zero _),fun _ _ h=>.inl h,fun _ _ _=>rfl⟩ _ _ (R.cut v hb h)
omit [KGl] in
theorem zlH (cap:Option Nat) (len:Nat):zu7 cap len=Y0 cap len:=by cases cap<;>rfl
theorem zlI {zm:KZ}{x:KV}{K:KV→Prop}(h:zgX zm x K):∃ y,K y∧∀(B:Nat) (C:Ctx) (M:Mem) (m:Ab.M),SR B C M→Sub (am zm) M→R C x.v m→R (C.opened B) y.v m:=by
 rcases ve h with ⟨id,p,e,off,len,cap,rfl,h1⟩ | ⟨_,h1⟩
 ·obtain⟨kd,sh,v,hb,h2⟩:=xL h1
  rw[xC] at h2
  obtain⟨h3,h4⟩:=ze h2
  simp only[zd] at h3
  obtain⟨q1,q2,q3,hpo,q4⟩:=h3
  obtain⟨n,f,hf,hf'⟩:=we q2
  have hn:=QI q2 hf
  rw[hn] at q4
  have q4:=Nat.le_of_ble_eq_true q4
  have hbel:=(jm 0 _ q3).1
  rw[hf] at hbel
  refine⟨_,h4,fun B C M m hs hsub hr=>?_⟩
  rw[v4 p v hpo] at hf
  have hz:=R.sl_ro (B:=B) (g:=fun v=>v) hs (hsub _ _ (zJ hb)) (by rw[KBlk.b,xk]; exact q1) hf (fun i hi md hr=>R.bel0 (hbel (off + i) (by have:Nat.add off len=off + len:=rfl; omega)) hr) hr
  rw[Xx,zlH]
  have:(fun i=>(jd p v).v.step (.idx (off + i)))=fun i=>f (off + i):=by
   funext i
   rw[hf',xU]
  rw[this]
  exact hz
 rcases vu h1 with ⟨id,e,len,rfl,g1⟩ | ⟨_,h1⟩
 ·obtain⟨kd,sh,v,hb,h2⟩:=xL g1
  obtain⟨h3,h4⟩:=ze h2
  simp only[zd] at h3
  obtain⟨q1,q2,q3,q4⟩:=h3
  obtain⟨n,f,hf,hf'⟩:=we q2
  have hn:=QI q2 hf
  rw[hn] at q4
  have q4:=Nat.le_of_ble_eq_true q4
  have hbel:=(jm 0 _ q3).1
  rw[hf] at hbel
  refine⟨_,h4,fun B C M m hs hsub hr=>?_⟩
  have hz:=R.row_ro (B:=B) (g:=fun v=>v) hs (hsub _ _ (zJ hb)) (by rw[KBlk.b,xk]; exact q1) (by rw[KBlk.b]; exact hf) (fun i hi md hr=>R.bel0 (hbel i (by omega)) hr) hr
  rw[Xx]
  have:(fun i=>v.v.step (.idx (0 + i)))=fun i=>f i:=by
   funext i
   rw[hf',xU,Nat.zero_add]
  rw[this]
  exact hz
 rcases xY h1 with ⟨id,p,s,rfl,g1⟩ | ⟨_,h1⟩
 ·obtain⟨kd,sh,v,hb,h2⟩:=xL g1
  rw[xC] at h2
  obtain⟨h3,h4⟩:=ze h2
  simp only[zd] at h3
  obtain⟨q1,hpo,q3⟩:=h3
  have hbel:=(jm 0 _ q3).1
  rw[v4 p v hpo] at hbel
  refine⟨_,h4,fun B C M m hs hsub hr=>?_⟩
  have hz:=R.ptr_ref (B:=B) (g:=fun v=>v) hs (hsub _ _ (zJ hb)) (by rw[KBlk.b,xk]; exact q1) (fun md hr=>R.bel0 hbel hr) hr
  show R (C.opened B) (.ref false s (jd p v).v) m
  rw[v4 p v hpo]
  exact hz
 ·exact h1.elim
omit [KGl] in
theorem R.cons_mapL {C D:Ctx}{a b a' b':V}(h1:∀ m,R C a m→R D a' m) (h2:∀ m,R C b m→R D b' m) {m:Ab.M}(h:R C (.cons a b) m):R D (.cons a' b') m:=by
 cases m with
 | cel s g off=>obtain⟨a,b,q1,q2,q3⟩:=h; exact⟨a,b,q1,h1 _ q2,h2 _ q3⟩
 | val v=>obtain⟨cs,a,b,q1,q2,q3,q4⟩:=h; exact⟨cs,a,b,q1,q2,h1 _ q3,h2 _ q4⟩
 | list l=>obtain⟨y,ys,q1,q2,q3⟩:=h; exact⟨y,ys,q1,h1 _ q2,h2 _ q3⟩
theorem WZ {zm:KZ}:∀(k:Nat) (x:KV) {K:KV→Prop},QC zm k x K→∃ y,K y∧∀(B:Nat) (C:Ctx) (M:Mem) (m:Ab.M),SR B C M→Sub (am zm) M→R C x.v m→R (C.opened B) y.v m
 | 0,x,K,h=>(show BadN 224 from h).elim
 | k + 1,x,K,h=>by
  have h0:@Bool.rec (fun _=>Prop) (xN (fun a b=>QC zm k a fun a=>QC zm k b fun b=>K (.cons a b)) (zgX zm x K) x) (K x) (zS 0 x):=h
  cases hx:zS 0 x with
  | true =>
   rw[hx] at h0
   exact⟨x,h0,fun B C M m _ _ hr=>R.bel0 (jm 0 _ hx).1 hr⟩
  | false =>
   rw[hx] at h0
   rcases xh h0 with ⟨a,b,rfl,h1⟩ | ⟨_,h1⟩
   ·obtain⟨a',h2,h3⟩:=WZ k a h1
    obtain⟨b',h4,h5⟩:=WZ k b h2
    exact⟨_,h4,fun B C M m hs hsub hr=>R.cons_mapL (fun m h=>h3 B C M m hs hsub h) (fun m h=>h5 B C M m hs hsub h) hr⟩
   ·exact zlI h1
theorem Vg {zm:KZ}:∀(l:List KV) {K:List KV→Prop},XM zm l K→∃ r,K r∧∀ B,Lend B (am zm) (l.map KV.v) (r.map KV.v)
 | [],K,h=>⟨[],h,fun B C M vals _ _ hr=>by rw[show vals=[] from hr]; exact rfl⟩
 | x::l,K,h=>by
  have h0:@Bool.rec (fun _=>Prop) (QC zm 60 x fun x=>XM zm l fun l=>K (x::l)) (XM zm l fun l=>K (x::l)) (zS 0 x):=h
  cases hx:zS 0 x with
  | true =>
   rw[hx] at h0
   obtain⟨r,h1,h2⟩:=Vg l (show XM zm l fun l=>K (x::l) from h0)
   refine⟨_,h1,fun B C M vals hs hsub hr=>?_⟩
   obtain⟨v,vs,rfl,h3,h4⟩:=hr
   exact⟨v,vs,rfl,R.bel0 (jm 0 _ hx).1 h3,h2 B C M vs hs hsub h4⟩
  | false =>
   rw[hx] at h0
   obtain⟨y,h5,h6⟩:=WZ 60 x (show QC zm 60 x fun x=>XM zm l fun l=>K (x::l) from h0)
   obtain⟨r,h1,h2⟩:=Vg l h5
   refine⟨_,h1,fun B C M vals hs hsub hr=>?_⟩
   obtain⟨v,vs,rfl,h3,h4⟩:=hr
   exact⟨v,vs,rfl,h6 B C M _ hs hsub h3,h2 B C M vs hs hsub h4⟩
theorem V2:∀(l:List KV),xt l=true→∀ B μ,Lend B μ (l.map KV.v) (l.map KV.v)
 | [],_,B,μ=>fun C M vals _ _ hr=>by rw[show vals=[] from hr]; exact rfl
 | x::l,h,B,μ=>fun C M vals hs hsub hr=>by
  obtain⟨q1,q2⟩:=zd.1 (show nd (zS 0 x) (xt l)=true from h)
  obtain⟨v,vs,rfl,h3,h4⟩:=hr
  exact⟨v,vs,rfl,R.bel0 (jm 0 _ q1).1 h3,V2 l q2 B μ C M vs hs hsub h4⟩
theorem QM {dr:Bool}{f:Operand}{args:Array Operand}{τ:Nat→KV}{lo:Nat}{fid:FuncId}{caps:KV}{zm:KZ}{nx mx:Nat}{K:KO}(hf:kev τ f=.fn fid caps)
  (h:Zz E run dr lo (args.toList.map (kev τ)) zm nx mx K fid caps):∃ fid l,FnArgs (tv' τ) f args fid (l.map KV.v)∧zav E run dr lo fid l zm nx mx K:=by
 have hfv:opv Gl.G (tv' τ) f=.fn fid caps.v:=by rw[←zK,hf]; rfl
 have h0:@Bool.rec (fun _=>Prop) (chk (Nat.blt fid 2147483648) 247 <| xN (fun x rest=>QQ (fun first=>WG first fun fs=>WG rest fun cs=>zat (args.toList.map (kev τ)) cs fun l=>zat fs l fun l=>fN (Nat.mod fid 1073741824) fun fid=>zav E run dr lo fid l zm nx mx K) (BadN 248) x) (BadN 249) caps)
  (WG caps fun cs=>zat (args.toList.map (kev τ)) cs fun l=>zav E run dr lo fid l zm nx mx K) (Nat.blt fid 1073741824):=h
 cases hb:Nat.blt fid 1073741824 with
 | true =>
  rw[hb] at h0
  rw[Nat.blt_eq] at hb
  obtain⟨cs,h1,h2⟩:=WX caps _ h0
  have h3:=WY _ _ _ h1
  refine⟨fid,_,?_,h3⟩
  rw[zhx h2]
  exact FnArgs.plain hfv hb
 | false =>
  rw[hb] at h0
  have hb:¬ fid < 1073741824:=fun h=>by
   have:Nat.blt fid 1073741824=true:=by rw[Nat.blt_eq]; exact h
   rw[this] at hb; cases hb
  obtain⟨hb2,h0⟩:=ze h0
  rw[Nat.blt_eq] at hb2
  obtain⟨x,rest,rfl,h1⟩:=(xh h0).resolve_right fun h=>(show BadN 249 from h.2).elim
  obtain⟨first,rfl,h2⟩:=(ya h1).resolve_right fun h=>(show BadN 248 from h.2).elim
  obtain⟨fs,h3,h4⟩:=WX first _ h2
  obtain⟨cs,h5,h6⟩:=WX rest _ h3
  have h7:=WY _ _ _ (WY _ _ _ h5)
  rw[zU] at h7
  refine⟨_,_,?_,h7⟩
  rw[List.map_append,h4,zhx h6]
  exact FnArgs.meth hfv hb hb2
theorem zfB (hr:jn E B run) (hE:KOk E) {o:Oper}{f:Operand}{args:Array Operand}{ts:Array TypeId}{τ:Nat→KV}{lo:Nat}{fid:FuncId}{caps:KV}{zm:KZ}{nx mx:Nat}{K:KO}(ho:o.op=.call ⟨.value f,args,ts⟩) (hf:kev τ f=.fn fid caps)
  (h:Zz E run false lo (args.toList.map (kev τ)) zm nx mx K fid caps) (hmb:MB (am zm) nx) (hlo:lo≤nx):zfz E B o τ lo zm nx mx K:=by
 obtain⟨fid,l,hfv,h3⟩:=QM hf h
 have h4:@Option.rec zh (fun _=>Prop) (@Option.rec zh (fun _=>Prop) (QB E run false lo fid l zm nx mx K) (zau l zm nx mx K) (ctU E fid l)) (zgY l zm nx mx K) (ctB E fid l):=h3
 cases hcb:ctB E fid l with
 | some s =>
  rw[hcb] at h4
  obtain⟨hq,hbl⟩:=zn2 hcb
  obtain⟨hfn,hs⟩:=hE.cb fid s hq
  obtain⟨v,h5,h6⟩:=hs _ _ (show s l (fun v=>fV v fun v=>K v zm nx mx [] [] false) from h4)
  rw[xC] at h5
  exact⟨v,zm,nx,mx,[],[],false,h5,⟨hmb,Nat.le_refl _,Nat.le_refl _,fun _ _=>rfl⟩,(xB ho hfv hfn (h6 hbl B (am zm) nx mx)).op⟩
 | none =>
 rw[hcb] at h4
 replace h4:@Option.rec zh (fun _=>Prop) (QB E run false lo fid l zm nx mx K) (zau l zm nx mx K) (ctU E fid l):=h4
 cases hc:ctU E fid l with
 | none =>
  rw[hc] at h4
  obtain⟨hfn,v,zm',nx',mx',up,rd,al,h5,h6,h7⟩:=zfA hr hE h4 hmb hlo
  exact⟨v,zm',nx',mx',up,rd,al,h5,h6,(xB ho hfv hfn h7).op⟩
 | some s =>
  rw[hc] at h4
  obtain⟨hfn,hs⟩:=hE.ct fid s (zn1 hc)
  have h4:@Bool.rec (fun _=>Prop) (XM zm l fun l=>s l fun v=>fV v fun v=>K v zm nx mx [] [] true) (s l fun v=>fV v fun v=>K v zm nx mx [] [] false) (xt l):=h4
  cases hbl:xt l with
  | true =>
   rw[hbl] at h4
   obtain⟨v,h5,h6⟩:=hs _ _ h4
   rw[xC] at h5
   have h7:=h6 B (am zm) nx mx _ (V2 _ hbl B (am zm))
   exact⟨v,zm,nx,mx,[],[],false,h5,⟨hmb,Nat.le_refl _,Nat.le_refl _,fun _ _=>rfl⟩,(xB ho hfv hfn h7).op⟩
  | false =>
   rw[hbl] at h4
   obtain⟨l',h41,h42⟩:=Vg _ h4
   obtain⟨v,h5,h6⟩:=hs _ _ h41
   rw[xC] at h5
   have h7:=h6 B (am zm) nx mx _ (h42 B)
   exact⟨v,zm,nx,mx,[],[],true,h5,⟨hmb,Nat.le_refl _,Nat.le_refl _,fun _ _=>rfl⟩,(xB ho hfv hfn h7).op⟩
omit [KGl] in
theorem zqM (c:Code):∃ n,cOk n c=true:=by
 have hd:∀ l:List Oper,∃ n,(l.all fun o=>dOk n o.dst)=true:=by
  intro l
  induction l with
  | nil=>exact⟨0,rfl⟩
  | cons o l ih =>
   obtain⟨n,hn⟩:=ih
   have hm:∀ m,n≤m→(l.all fun o=>dOk m o.dst)=true:=fun m hm=>List.all_eq_true.2 fun x hx=>by
    have:=List.all_eq_true.1 hn x hx
    cases hxd:x.dst with
    | none=>rfl
    | some d=>rw[hxd] at this; simp only[dOk,decide_eq_true_eq] at this ⊢; exact Nat.lt_of_lt_of_le this hm
   cases ho:o.dst with
   | none=>exact⟨n,by rw[List.all_cons,ho,hn]; rfl⟩
   | some d=>exact⟨n + d + 1,by rw[List.all_cons,ho,hm _ (Nat.le_trans (Nat.le_add_right n d) (Nat.le_succ _)),Bool.and_true]; exact decide_eq_true (Nat.lt_succ_of_le (Nat.le_add_left d n))⟩
 induction c with
 | region id ops draw=>exact hd ops.toList
 | seq a b ih1 ih2 =>
  obtain⟨n,hn⟩:=ih1; obtain⟨m,hm⟩:=ih2
  exact⟨n + m,by simp only[cOk,Bool.and_eq_true]; exact⟨vx (by omega) hn,vx (by omega) hm⟩⟩
 | cond t a b ih1 ih2 =>
  obtain⟨n,hn⟩:=ih1; obtain⟨m,hm⟩:=ih2
  exact⟨n + m,by simp only[cOk,Bool.and_eq_true]; exact⟨vx (by omega) hn,vx (by omega) hm⟩⟩
 | block id c ih=>exact ih
 | loop c ih=>exact ih
 | scope c ih=>exact ih
 | rangeFunc f ps a b ih1 ih2 =>
  obtain⟨n,hn⟩:=ih1; obtain⟨m,hm⟩:=ih2
  obtain⟨k,hk⟩:∃ k,∀ p∈ps.toList,p < k:=by
   generalize ps.toList=l
   induction l with
   | nil=>exact⟨0,fun p hp=>by cases hp⟩
   | cons q l ih =>
    obtain⟨k,hk⟩:=ih
    refine⟨k + q + 1,fun p hp=>?_⟩
    rcases List.mem_cons.1 hp with rfl | hp
    ·exact Nat.lt_succ_of_le (Nat.le_add_left _ _)
    ·exact Nat.lt_of_lt_of_le (hk p hp) (Nat.le_trans (Nat.le_add_right k q) (Nat.le_succ _))
  refine⟨n + m + k,?_⟩
  simp only[cOk,Bool.and_eq_true,List.all_eq_true,decide_eq_true_eq]
  exact⟨fun p hp=>Nat.lt_of_lt_of_le (hk p hp) (Nat.le_add_left _ _),vx (by omega) hn,vx (by omega) hm⟩
 | _=>exact⟨0,rfl⟩
omit [KGl] in
theorem zqN (ps:Array Tmp) (a b:Code):okR ps a b (ndR ps a b):=by
 obtain⟨n,hn⟩:=zqM (.rangeFunc (.tmp 0) ps a b)
 simp only[cOk,Bool.and_eq_true] at hn
 exact (zgs (n:=n) ⟨hn.1,hn.2.1,hn.2.2⟩).2
omit [KGl] in
theorem zqO (p:Pth) (tr:KTm):(zlu tr).atv p .unk=(get .unk p tr).v:=by
 induction p generalizing tr with
 | nil=>cases tr<;>rfl
 | cons g p ih =>
  cases tr with
  | e=>rfl
  | m a b c d=>cases g<;>exact ih _
  | n x a b c d=>cases g<;>exact ih _
omit [KGl] in
theorem zhy:∀(p:Pth) (t:KV),(get .unk p (Xk t)).v=t.atv p .unk
 | [],t=>by cases t<;>rfl
 | g::p,t=>by
  have ih:=zhy p
  cases t with
  | tb a b c d=>cases g<;>exact ih _
  | tn x a b c d=>cases g<;>exact ih _
  | _=>rfl
omit [KGl] in
theorem zhz {d:KV}(h:zgZ d=true):d=.unk:=by cases d<;>first | rfl | cases h
omit [KGl] in
theorem zvv {e:Exit}{f:KV→Bool→Prop}(h:exK e f):∃ st b,f st b∧StE st.v e∧(b=true↔e=.normal):=by
 cases e with
 | normal=>exact⟨.nl,true,h,.inl ⟨rfl,rfl⟩,by simp⟩
 | ret=>exact⟨.bool true,false,h,.inr (.inl ⟨rfl,rfl⟩),by simp⟩
 | exit i=>exact⟨.int .i64 (.ofNat i),false,h,.inr (.inr ⟨i,rfl,rfl⟩),by simp⟩
 | _=>exact (show BadN 201 from h).elim
omit [KGl] in
theorem zvw {st:KV}{f:Exit→Prop}(h:stK st f):∃ e,f e∧StE st.v e:=by
 rcases jc h with ⟨rfl,h1⟩ | ⟨_,h1⟩
 ·exact⟨_,h1,.inl ⟨rfl,rfl⟩⟩
 ·rcases xI h1 with ⟨b,rfl,h2⟩ | ⟨_,h2⟩
  ·cases b with
   | true=>exact⟨_,h2,.inr (.inl ⟨rfl,rfl⟩)⟩
   | false=>exact (show BadN 204 from h2).elim
  ·rcases zz h2 with ⟨k,i,rfl,h3⟩ | ⟨_,h3⟩
   ·obtain⟨h4,h5⟩:=ze h3
    obtain rfl:=zD h4
    cases i with
    | ofNat n=>exact⟨_,h5,.inr (.inr ⟨n,rfl,rfl⟩)⟩
    | negSucc n=>exact (show BadN 206 from h5).elim
   ·exact h3.elim
omit [KGl] in
theorem w5 {zm:KZ}{id:Nat}:am (set none (enc id) zm)=upd (am zm) id none:=by
 funext i
 unfold am
 rw[WM]
 by_cases h:i=id
 ·subst h; rw[if_pos rfl,zp]; rfl
 ·rw[if_neg h,zf _ _ h]
theorem W0 {mask:Nat}:∀(ps:List Tmp) (l:List KV) (tr:KTm) (K:KTm→Prop),zaw mask ps l tr K→INV mask tr→∃ tr',K tr'∧INV mask tr'∧zdx ps (l.map KV.v) (tv' (zn tr)) (tv' (zn tr'))∧l.length=ps.length
 | [],[],tr,K,h,hi=>⟨tr,h,hi,fun _=>rfl,rfl⟩
 | [],_::_,tr,K,h,hi=>(show BadN 198 from h).elim
 | _::_,[],tr,K,h,hi=>(show BadN 199 from h).elim
 | p::ps,v::l,tr,K,h,hi=>by
  have h0:@Bool.rec (fun _=>Prop) (zaw mask ps l tr K) (fV v fun v=>vc v (enc p) tr fun tr=>zaw mask ps l tr K) (xP mask p):=h
  cases hk:xP mask p with
  | false =>
   rw[hk] at h0
   obtain⟨tr',h1,h2,h3,h4⟩:=W0 ps l tr K h0 hi
   exact⟨tr',h1,h2,⟨tv' (zn tr),fun t=>by
    by_cases e:t=p
    ·subst e; exact .inl ⟨rfl,.inr (hi t hk)⟩
    ·exact .inr ⟨e,rfl⟩,h3⟩,by simp [h4]⟩
  | true =>
   rw[hk] at h0
   have h0:fV v (fun v=>vc v (enc p) tr fun tr=>zaw mask ps l tr K):=h0
   rw[xC,xz] at h0
   obtain⟨tr',h1,h2,h3,h4⟩:=W0 ps l _ K h0 (fun t ht=>by
    rw[jQ]
    by_cases e:t=p
    ·subst e; rw[hk] at ht; cases ht
    ·rw[if_neg e]; exact hi t ht)
   refine⟨tr',h1,h2,⟨_,fun t=>?_,h3⟩,by simp [h4]⟩
   show (t=p∧((zn (set v (enc p) tr) t).v=v.v∨_))∨(t≠p∧(zn (set v (enc p) tr) t).v=_)
   rw[jQ]
   by_cases e:t=p
   ·subst e; rw[if_pos rfl]; exact .inl ⟨rfl,.inl rfl⟩
   ·rw[if_neg e]; exact .inr ⟨e,rfl⟩
omit [KGl] in
theorem w6 {zm:KZ}{b:KBlk}{id:Nat}:am (set (some b) (enc id) zm)=upd (am zm) id (some b.b):=wA
omit [KGl] in
theorem V3 {mask:Nat}:∀(p:Pth) (tr:KTm) (i w:Nat),zax mask tr i w=true→xP mask (i + w * num p)=false→(get .unk p tr).v=.unk
 | [],tr,i,w,h,hk=>by
  cases tr with
  | e=>rfl
  | m a b c d=>rfl
  | n x a b c d =>
   obtain⟨h1,_⟩:=zd.1 (show nd (@Bool.rec (fun _=>Bool) (zgZ x) true (xP mask i)) _=true from h)
   rw[show i + w * num []=i from by simp [num]] at hk
   rw[hk] at h1
   rw[show get .unk [] (Tr.n x a b c d)=x from rfl,zhz h1]; rfl
 | g::p,tr,i,w,h,hk=>by
  have hi:∀ k,g.n=k→i + w * num (g::p)=(i + (k + 1) * w) + 4 * w * num p:=by
   rintro k rfl
   show i + w * (4 * num p + g.n + 1)=_
   rw[Nat.mul_add,Nat.mul_add,Nat.add_mul,←Nat.mul_assoc,Nat.mul_comm w 4,Nat.mul_comm g.n w]; omega
  have four:∀ {a b c d:KTm},nd (zax mask a (Nat.add i w) (Nat.mul 4 w)) (nd (zax mask b (Nat.add i (Nat.mul 2 w)) (Nat.mul 4 w)) (nd (zax mask c (Nat.add i (Nat.mul 3 w)) (Nat.mul 4 w)) (zax mask d (Nat.add i (Nat.mul 4 w)) (Nat.mul 4 w))))=true→(get .unk p (zgH g a b c d)).v=.unk:=by
   intro a b c d h
   simp only[zd] at h
   obtain⟨h1,h2,h3,h4⟩:=h
   cases g
   ·exact V3 p a _ _ h1 (by rw[hi 0 rfl] at hk; simpa using hk)
   ·exact V3 p b _ _ h2 (by rw[hi 1 rfl] at hk; simpa using hk)
   ·exact V3 p c _ _ h3 (by rw[hi 2 rfl] at hk; simpa using hk)
   ·exact V3 p d _ _ h4 (by rw[hi 3 rfl] at hk; simpa using hk)
  cases tr with
  | e=>exact congrArg KV.v (XL _ _)
  | m a b c d=>exact four h
  | n x a b c d=>exact four (zd.1 (show nd (@Bool.rec (fun _=>Bool) (zgZ x) true (xP mask i)) _=true from h)).2
omit [KGl] in
theorem INV.of {mask:Nat}{tr:KTm}(h:zax mask tr 0 1=true):INV mask tr:=fun t ht=>V3 (enc t) tr 0 1 h (by rw[Wx]; simpa using ht)
theorem zbY (hr:jn E B run) {o:Oper}{f:Operand}{args:Array Operand}{ts:Array TypeId}{τ:Nat→KV}{lo id:Nat}{zm:KZ}{nx mx:Nat}{K:KO}(ho:o.op=.call ⟨.value f,args,ts⟩) (hf:kev τ f=.yld id)
  (h:WH run false lo (args.toList.map (kev τ)) zm nx mx K id) (hmb:MB (am zm) nx) (hlo:lo≤nx):zfz E B o τ lo zm nx mx K:=by
 have hfv:opv Gl.G (tv' τ) f=.yld id:=by rw[←zK,hf]; rfl
 obtain⟨h1,h2⟩:=ze (show chk (nd (Nat.ble lo id) (Nat.blt id nx)) 192 _ from h)
 obtain⟨h3,h4⟩:=zd.1 h1
 have h3:=Nat.le_of_ble_eq_true h3
 have h4:=xZ.1 h4
 obtain⟨kd,sh,v,hb,h5⟩:=xL h2
 cases kd with
 | box=>exact (show BadN 193 from h5).elim
 | row e=>exact (show BadN 193 from h5).elim
 | dead=>exact (show BadN 193 from h5).elim
 | mp=>exact (show BadN 193 from h5).elim
 | lp mask ps x y =>
  obtain⟨st,w,rfl,h6⟩:=(xh h5).resolve_right fun h=>(show BadN 197 from h.2).elim
  obtain⟨rfl,h7⟩:=(jc h6).resolve_right fun h=>(show BadN 196 from h.2).elim
  obtain⟨k0,d,t,rfl,h8⟩:=(jb h7).resolve_right fun h=>(show BadN 195 from h.2).elim
  obtain⟨h9,h10⟩:=ze h8
  obtain rfl:=zhz h9
  obtain⟨h11,h12⟩:=ze (show chk (zax mask (Xk t) 0 1) 209 _ from h10)
  obtain⟨tr1,h13,h14,h15,h16⟩:=W0 _ _ _ _ h12 (INV.of h11)
  rw[xz] at h13
  have hmb0:MB (am (set none (enc id) zm)) nx:=fun i hi=>by
   rw[w5]
   by_cases e:i=id
   ·subst e; rw[zp]
   ·rw[zf _ _ e]; exact hmb i hi
  have hok:=zqN ps x y
  obtain⟨e1,tr2,zm2,nx2,mx2,q1,q2,q3,q4⟩:=hr _ _ _ _ _ _ _ _ (ndR ps x y) h13 hok.2.1 hmb0 hlo h14
  obtain⟨q5,q6⟩:=ze q1
  obtain rfl:e1=.normal:=by cases e1<;>first | rfl | cases q5
  have hn2:=q2.nx
  obtain⟨e2,tr3,zm3,nx3,mx3,r1,r2,r3,r4⟩:=hr _ _ _ _ _ _ _ _ (ndR ps x y) q6 hok.2.2 q2.mb (by omega) q3
  have hn3:=r2.nx
  obtain⟨st',b,s1,s2,s3⟩:=zvv r1
  rw[xz] at s1
  have hτc:tv' (zn (Xk t))=fun i=>t.atv (enc i) .unk:=by funext i; exact zhy (enc i) t
  have hμ:am zm id=some ⟨.lp mask ps x y,sh,.cons .nl (.arr k0 fun i=>t.atv (enc i) .unk)⟩:=by rw[zJ hb]; rfl
  refine⟨.bool b,_,nx3,mx3,[],[],false,s1,⟨fun i hi=>?_,by omega,by have:=q2.mx; have:=r2.mx; omega,fun i hi=>?_⟩,?_⟩
  ·rw[w6,zf _ _ (by omega)]; exact r2.mb i hi
  ·rw[w6,zf _ _ (by omega),r2.low i hi,q2.low i hi,w5,zf _ _ (by omega)]
  ·rw[w6]
   rw[w5] at q4
   rw[hτc] at h15
   refine GOp.yield (τc:=fun i=>t.atv (enc i) .unk) (τp:=tv' (zn tr1)) ho hfv h4 hμ ?_ (by simpa using h16) q4 r4 hn2 hn3 r2.mx s2 s3
   rw[←w0]
   exact h15
omit [KGl] in
theorem qg (nx:Nat):MB (fun _=>none) nx:=fun _ _=>rfl
theorem GSt.iso {P:Program}{o:Oper}{τ:Nat→V}{μ μ1 μ':Mem}{nx nx':Nat}{v:V}{e:Eff}(h:GSt P B o τ (fun _=>none) μ1 nx nx' v [] [] e) (h1:∀ id,(id < nx∨nx'≤id)→μ id=none→μ' id=none)
  (h2:MB μ nx→∀ id b,μ' id=some b→(nx≤id∧id < nx'∧μ1 id=some b)∨(¬ (nx≤id∧id < nx')∧μ id=some b)):GSt P B o τ μ μ' nx nx' v [] [] e:=by
 have hup:e.up=[]:=by
  have:=h.ups
  cases hu:e.up with
  | nil=>rfl
  | cons x l=>rw[hu] at this; cases this
 refine⟨h.val,h.nxt,h.ups,h.rds,(by rw[hup]; intro x hx; cases hx),h1,fun M _=>h.sem M (fun id b hb=>by cases hb),fun hmb M hM id b hb=>?_⟩
 rcases h2 hmb id b hb with ⟨q1,q2,q3⟩ | ⟨q1,q2⟩
 ·exact h.sub (qg nx) M (fun id b hb=>by cases hb) id b q3
 ·have hn:=h.nxt
  have:xf e nx id=none:=yW (by omega) (by rw[hup]; intro x hx; cases hx)
  simp only[put,this]
  exact hM id b q2
omit [KGl] in
theorem zaH {zm1:KZ}:∀(n i:Nat) (zm:KZ) (K:KZ→Prop),VU zm1 n i zm K→∃ zm',K zm'∧∀ id,am zm' id=if i≤id∧id < i + n then am zm1 id else am zm id
 | 0,i,zm,K,h=>⟨zm,h,fun id=>by rw[if_neg (by omega)]⟩
 | n + 1,i,zm,K,h=>by
  have h0:vc (kb zm1 i) (enc i) zm (fun zm=>zW (Nat.succ i) fun i=>VU zm1 n i zm K):=h
  rw[xz,zZ] at h0
  obtain⟨zm',h1,h2⟩:=zaH n (i + 1) _ K h0
  refine⟨zm',h1,fun id=>?_⟩
  rw[h2]
  by_cases hi:i + 1≤id∧id < i + 1 + n
  ·rw[if_pos hi,if_pos (by omega)]
  ·rw[if_neg hi]
   have hs:am (set (kb zm1 i) (enc i) zm) id=if id=i then am zm1 id else am zm id:=by
    unfold am
    rw[WM]
    by_cases h3:id=i
    ·subst h3; simp
    ·rw[if_neg h3,if_neg h3]
   rw[hs]
   by_cases h3:id=i
   ·rw[if_pos h3,if_pos (by omega)]
   ·rw[if_neg h3,if_neg (by omega)]
theorem zlJ (hr:jn E B run) (hE:KOk E) {o:Oper}{f:Operand}{args:Array Operand}{ts:Array TypeId}{τ:Nat→KV}{lo:Nat}{fid:FuncId}{l:List KV}{zm:KZ}{nx mx:Nat}{K:KO}(ho:o.op=.call ⟨.value f,args,ts⟩) (hfv:FnArgs (tv' τ) f args fid (l.map KV.v))
  (h:zdv E run lo fid l zm nx mx K) (hmb:MB (am zm) nx) (hlo:lo≤nx):zlG E B o τ lo zm nx mx K:=by
 unfold zdv at h
 rw[zU] at h
 generalize @Bool.rec (fun _=>Nat) (y4 lo (zu6 nx l)) lo (Nat.ble 3 (E.md fid))=lo' at h
 obtain⟨h0,h5⟩:=ze h
 obtain⟨h00,h0⟩:=zd.1 h0
 have hm0:=Nat.le_of_ble_eq_true h00
 have hlo':=Nat.le_of_ble_eq_true h0
 obtain⟨hfn,v,zm',nx1,mx1,h6,h7,h8⟩:=vY hr hE h5 hmb hlo'
 rw[zU] at h6
 have hmax:=Vf nx1 mx1
 generalize y4 nx1 mx1=nx2 at h6 hmax
 obtain⟨U,h9,hU1,hU2⟩:=zdC _ _ h6
 have hsub:lo' + Nat.sub nx lo'=nx:=by show lo' + (nx - lo')=nx; omega
 rw[hsub] at hU1
 have h10:=(xB ho hfv hfn h8).imp (Imp.refl _) (MImp.refl _) hmax.1 (mx2:=nx2) hmax.2
 have hmb2:MB (am zm') nx2:=fun id hid=>h7.mb id (by omega)
 have hle:nx≤nx2∧mx≤nx2:=⟨by have:=h7.nx; omega,by have:=h7.mx; omega⟩
 have h11:=h10.stW (U:=U) hmb hmb2 (fun id hid hn=>by
  rcases Nat.lt_or_ge id lo' with q | q
  ·exact h7.low id q
  ·unfold am; rw[hU1 id q hid hn]) (fun id hid=>by obtain⟨_,a,b⟩:=hU2 id hid; rw[hsub] at a; exact⟨a,b⟩) hle.1 (Nat.le_refl _)
 exact⟨v,zm',nx2,nx2,U,[],true,h9,⟨hmb2,hle.1,hle.2,fun id hid=>h7.low id (by omega)⟩,_,_,h11,(fun h=>by cases h),fun _ id hid=>Xt hid⟩
theorem zfC (hr:jn E B run) (hE:KOk E) {o:Oper}{f:Operand}{args:Array Operand}{ts:Array TypeId}{τ:Nat→KV}{lo:Nat}{fid:FuncId}{caps:KV}{zm:KZ}{nx mx:Nat}{K:KO}(ho:o.op=.call ⟨.value f,args,ts⟩) (hf:kev τ f=.fn fid caps)
  (h:Zz E run true lo (args.toList.map (kev τ)) zm nx mx K fid caps) (hmb:MB (am zm) nx) (hlo:lo≤nx):zlG E B o τ lo zm nx mx K:=by
 obtain⟨fid,l,hfv,h3⟩:=QM hf h
 have h4:@Option.rec zh (fun _=>Prop) (@Option.rec zh (fun _=>Prop) (QB E run true lo fid l zm nx mx K) (zau l zm nx mx K) (ctU E fid l)) (zgY l zm nx mx K) (ctB E fid l):=h3
 cases hcb:ctB E fid l with
 | some s =>
  rw[hcb] at h4
  obtain⟨hq,hbl⟩:=zn2 hcb
  obtain⟨hfn,hs⟩:=hE.cb fid s hq
  obtain⟨v,h5,h6⟩:=hs _ _ (show s l (fun v=>fV v fun v=>K v zm nx mx [] [] false) from h4)
  rw[xC] at h5
  have h7:=h6 hbl B (fun _=>none) nx 0
  have h8:=(xB ho hfv hfn h7).st (qg nx) (qg nx) (fun _ _=>rfl) (Nat.le_refl _) (Nat.zero_le _)
  have hd:dom (fun _=>none) nx=[]:=by simp [dom]
  rw[hd] at h8
  exact⟨v,zm,nx,mx,[],[],false,h5,⟨hmb,Nat.le_refl _,Nat.le_refl _,fun _ _=>rfl⟩,[],_,h8.iso (fun _ _ h=>h) (fun _ id b hb=>.inr ⟨by omega,hb⟩),fun _=>rfl,fun h=>by cases h⟩
 | none =>
 rw[hcb] at h4
 replace h4:@Option.rec zh (fun _=>Prop) (QB E run true lo fid l zm nx mx K) (zau l zm nx mx K) (ctU E fid l):=h4
 cases hc:ctU E fid l with
 | some s =>
  rw[hc] at h4
  obtain⟨hfn,hs⟩:=hE.ct fid s (zn1 hc)
  have h4:@Bool.rec (fun _=>Prop) (XM zm l fun l=>s l fun v=>fV v fun v=>K v zm nx mx [] [] true) (s l fun v=>fV v fun v=>K v zm nx mx [] [] false) (xt l):=h4
  cases hbl:xt l with
  | true =>
   rw[hbl] at h4
   obtain⟨v,h5,h6⟩:=hs _ _ h4
   rw[xC] at h5
   have h7:=h6 B (fun _=>none) nx 0 _ (V2 _ hbl B _)
   have h8:=(xB ho hfv hfn h7).st (qg nx) (qg nx) (fun _ _=>rfl) (Nat.le_refl _) (Nat.zero_le _)
   have hd:dom (fun _=>none) nx=[]:=by simp [dom]
   rw[hd] at h8
   exact⟨v,zm,nx,mx,[],[],false,h5,⟨hmb,Nat.le_refl _,Nat.le_refl _,fun _ _=>rfl⟩,[],_,h8.iso (fun _ _ h=>h) (fun _ id b hb=>.inr ⟨by omega,hb⟩),fun _=>rfl,fun h=>by cases h⟩
  | false =>
   rw[hbl] at h4
   obtain⟨l',h41,h42⟩:=Vg _ h4
   obtain⟨v,h5,h6⟩:=hs _ _ h41
   rw[xC] at h5
   have h7:=h6 B (am zm) nx 0 _ (h42 B)
   have h8:=(xB ho hfv hfn h7).st hmb hmb (fun _ _=>rfl) (Nat.le_refl _) (Nat.zero_le _)
   exact⟨v,zm,nx,mx,[],[],true,h5,⟨hmb,Nat.le_refl _,Nat.le_refl _,fun _ _=>rfl⟩,_,_,h8,(fun h=>by cases h),fun _ id hid=>Xt hid⟩
 | none =>
  rw[hc] at h4
  have h4:@Bool.rec (fun _=>Prop) (@Bool.rec (fun _=>Prop) (zi E run nx fid l zm nx mx (zgV (E.md fid) zm K)) (zi E run nx fid l .e nx mx (zgW (E.md fid) zm nx K)) (xt l)) (zdv E run lo fid l zm nx mx K) (isW (E.md fid)):=h4
  cases hw:isW (E.md fid) with
  | true =>
   rw[hw] at h4
   exact zlJ hr hE ho hfv h4 hmb hlo
  | false =>
  rw[hw] at h4
  have h5:@Bool.rec (fun _=>Prop) (zi E run nx fid l zm nx mx (zgV (E.md fid) zm K)) (zi E run nx fid l .e nx mx (zgW (E.md fid) zm nx K)) (xt l):=h4
  cases hb:xt l with
  | false =>
   rw[hb] at h5
   obtain⟨hfn,v,zm',nx1,mx1,h6,h7,h8⟩:=vY hr hE h5 hmb (Nat.le_refl nx)
   have h9:fN (y4 nx1 mx1) (fun nx=>@Nat.rec (fun _=>Prop) (K v zm' nx nx [] [] true) (fun _ _=>K v zm nx nx [] [] true) (E.md fid)):=h6
   rw[zU] at h9
   have hmax:=Vf nx1 mx1
   generalize y4 nx1 mx1=nx2 at h9 hmax
   have h10:=(xB ho hfv hfn h8).imp (Imp.refl _) (MImp.refl _) hmax.1 (mx2:=nx2) hmax.2
   have hmb2:MB (am zm') nx2:=fun id hid=>h7.mb id (by omega)
   have h11:=h10.st hmb hmb2 h7.low (by have:=h7.nx; omega) (Nat.le_refl _)
   have hle:nx≤nx2∧mx≤nx2:=⟨by have:=h7.nx; omega,by have:=h7.mx; omega⟩
   cases hm:E.md fid with
   | zero =>
    rw[hm] at h9
    exact⟨v,zm',nx2,nx2,[],[],true,h9,⟨hmb2,hle.1,hle.2,fun id hid=>h7.low id (by omega)⟩,_,_,h11,(fun h=>by cases h),fun _ id hid=>Xt hid⟩
   | succ m =>
    rw[hm] at h9
    have h12:GSt E.P B o (tv' τ) (am zm) (am zm) nx nx2 v.v [] (dom (am zm) nx) ⟨v.v,[],qh (am zm') nx nx2,dom (am zm) nx⟩:=by
     refine⟨h11.val,h11.nxt,h11.ups,h11.rds,h11.upk,fun _ _ h=>h,h11.sem,fun hm1 M hM id b hb'=>?_⟩
     have hid:id < nx:=by
      rcases Nat.lt_or_ge id nx with q | q
      ·exact q
      ·rw[hm1 id q] at hb'; cases hb'
     exact h11.sub hm1 M hM id b (by rw[h7.low id hid]; exact hb')
    exact⟨v,zm,nx2,nx2,[],[],true,h9,⟨fun id hid=>hmb id (by omega),hle.1,hle.2,fun _ _=>rfl⟩,_,_,h12,(fun h=>by cases h),fun _ id hid=>Xt hid⟩
  | true =>
   rw[hb] at h5
   have hme:MB (am (.e:KZ)) nx:=by rw[J8]; exact qg nx
   obtain⟨hfn,v,zm',nx1,mx1,h6,h7,h8⟩:=vY hr hE h5 hme (Nat.le_refl nx)
   have h9:fN (y4 nx1 mx1) (fun nx'=>@Nat.rec (fun _=>Prop) (VU zm' (Nat.sub nx' nx) nx zm fun zm=>K v zm nx' nx' [] [] false) (fun _ _=>K v zm nx' nx' [] [] false) (E.md fid)):=h6
   rw[zU] at h9
   have hmax:=Vf nx1 mx1
   generalize y4 nx1 mx1=nx2 at h9 hmax
   have h10:=(xB ho hfv hfn h8).imp (Imp.refl _) (MImp.refl _) hmax.1 (mx2:=nx2) hmax.2
   have hmb2:MB (am zm') nx2:=fun id hid=>h7.mb id (by omega)
   have hle:nx≤nx2∧mx≤nx2:=⟨by have:=h7.nx; omega,by have:=h7.mx; omega⟩
   have h11:=h10.st hme hmb2 h7.low hle.1 (Nat.le_refl _)
   rw[J8] at h11
   have hd:dom (fun _=>none) nx=[]:=by simp [dom]
   rw[hd] at h11
   cases hm:E.md fid with
   | zero =>
    rw[hm] at h9
    obtain⟨zm2,h12,h13⟩:=zaH _ _ _ _ (show VU zm' (nx2 - nx) nx zm (fun zm=>K v zm nx2 nx2 [] [] false) from h9)
    have h14:∀ id,am zm2 id=if nx≤id∧id < nx2 then am zm' id else am zm id:=fun id=>by
     rw[h13]
     by_cases hi:nx≤id∧id < nx2
     ·rw[if_pos hi,if_pos (by omega)]
     ·rw[if_neg hi,if_neg (by omega)]
    refine⟨v,zm2,nx2,nx2,[],[],false,h12,⟨fun id hid=>?_,hle.1,hle.2,fun id hid=>?_⟩,[],_,h11.iso (fun id hid hn=>?_) (fun _ id b hb'=>?_),fun _=>rfl,fun h=>by cases h⟩
    ·rw[h14,if_neg (by omega)]; exact hmb id (by omega)
    ·rw[h14,if_neg (by omega)]
    ·rw[h14,if_neg (by omega)]; exact hn
    ·rw[h14] at hb'
     by_cases hi:nx≤id∧id < nx2
     ·rw[if_pos hi] at hb'; exact .inl ⟨hi.1,hi.2,hb'⟩
     ·rw[if_neg hi] at hb'; exact .inr ⟨hi,hb'⟩
   | succ m =>
    rw[hm] at h9
    refine⟨v,zm,nx2,nx2,[],[],false,h9,⟨fun id hid=>hmb id (by omega),hle.1,hle.2,fun _ _=>rfl⟩,[],_,h11.iso (fun id hid hn=>hn) (fun hm1 id b hb'=>?_),fun _=>rfl,fun h=>by cases h⟩
    refine .inr ⟨fun hc=>?_,hb'⟩
    rw[hm1 id hc.1] at hb'; cases hb'
end
end
end Go.K
