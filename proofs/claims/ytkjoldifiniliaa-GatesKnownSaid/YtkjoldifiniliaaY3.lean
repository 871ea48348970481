/- A run that the kernel carries out, over trees: regions, calls, code. No condition. -/
import Derived.Test.YtkjoldifiniliaaY2
set_option linter.unusedVariables false
set_option linter.unusedSimpArgs false
set_option linter.constructorNameAsVariable false
namespace Go.Y
open Go.Ab Go.RowKit
noncomputable section
variable [Gl]

/-! ### What cannot be gone on with -/
inductive BadV (o : Op) : Prop
inductive BadN (n : Nat) : Prop
omit [Gl] in
theorem BadV.elim {o : Op} {p : Prop} (h : BadV o) : p := nomatch h
omit [Gl] in
theorem BadN.elim {n : Nat} {p : Prop} (h : BadN n) : p := nomatch h
/-- Worked out as far as its head. -/
def forceV (v : V) (K : V → Prop) : Prop :=
  @V.rec (fun _ => Prop) (fun k n => K (.int k n)) (fun b => K (.bool b)) (fun s => K (.str s)) (K .nl) (fun h t _ _ => K (.cons h t)) (fun n f _ => K (.arr n f)) (fun id p s => K (.ptr id p s)) (fun id e n => K (.row id e n))
    (fun id p e off len cap => K (.sl id p e off len cap)) (fun w s c _ => K (.ref w s c)) (K .nilp) (K .nils) (K .nilf) (fun w clip s len f _ => K (.ro w clip s len f)) (fun f c _ => K (.fn f c)) (fun l _ => K (.tup l)) (K .unk) v
omit [Gl] in
theorem forceV_eq (v : V) (K : V → Prop) : forceV v K = K v := by cases v <;> rfl
def forceKd (k : Kind) (K : Kind → Prop) : Prop := @Kind.rec (fun _ => Prop) (K .box) (fun e => K (.row e)) (K .dead) k
omit [Gl] in
theorem forceKd_eq (v : Kind) (K : Kind → Prop) : forceKd v K = K v := by cases v <;> rfl
def forceB (b : Blk) (K : Option Blk → Prop) : Prop := @Blk.rec (fun _ => Prop) (fun k sh v => forceKd k fun k => forceV v fun v => K (some ⟨k, sh, v⟩)) b
omit [Gl] in
theorem forceB_eq (b : Blk) (K : Option Blk → Prop) : forceB b K = K (some b) := by
  obtain ⟨k, sh, v⟩ := b
  unfold forceB
  show forceKd k (fun k => forceV v fun v => K (some ⟨k, sh, v⟩)) = _
  rw [forceKd_eq, forceV_eq]

/-! ### Trees whose names are replaced -/
/-- At each leaf. -/
def mapL (g : V → V) : V → V
  | .cons h t => .cons (mapL g h) (mapL g t)
  | .arr n f => .arr n fun i => mapL g (f i)
  | .fn f c => .fn f (mapL g c)
  | .tup l => .tup (mapL g l)
  | v => g v
def cutL (v : V) : V := match v with
  | .ptr .. | .row .. | .sl .. => .unk
  | v => v
def capIs (cap : Option Nat) (len : Nat) : Bool := match cap with
  | some k => Nat.beq k len
  | none => false
def leafZ (m : Mem) (g : V → V) (v : V) : V := match v with
  | .ptr id p s => match m id with
    | some blk => if blk.alive then .ref false s (g (blk.v.path p)) else .unk
    | none => .unk
  | .row id e n => match m id with
    | some blk => if blk.alive then match blk.v with
      | .arr _ f => .ro false false e n fun i => g (f i)
      | _ => .unk
      else .unk
    | none => .unk
  | .sl id p e off len cap => match m id with
    | some blk => if blk.alive then match blk.v.path p with
      | .arr _ f => .ro false (capIs cap len) e len fun i => g (f (off + i))
      | _ => .unk
      else .unk
    | none => .unk
  | v => v
/-- Pointers are followed, up to a depth. -/
def frz (m : Mem) : Nat → V → V
  | 0 => mapL cutL
  | k + 1 => mapL (leafZ m (frz m k))

/-- The same, one step deep: what has to hold, the tree, the blocks that were looked at. -/
def resM (m : Mem) : V → Option (Bool × V × List Nat)
  | .row id e n => match m id with
    | some blk => if blk.alive then match blk.v with
      | .arr _ f => some ((List.range n).all fun i => noId (f i), .ro false false e n f, [id])
      | _ => none
      else none
    | none => none
  | .sl id p e off len cap => match m id with
    | some blk => if blk.alive then match blk.v.path p with
      | .arr _ f => some ((List.range len).all fun i => noId (f (off + i)), .ro false (capIs cap len) e len (fun i => f (off + i)), [id])
      | _ => none
      else none
    | none => none
  | .ptr id p s => match m id with
    | some blk => if blk.alive && noId (blk.v.path p) then some (true, .ref false s (blk.v.path p), [id]) else none
    | none => none
  | .cons h t => match resM m h, resM m t with
    | some (p, h', r), some (q, t', r') => some (p && q, .cons h' t', r ++ r')
    | _, _ => none
  | .tup l => match resM m l with
    | some (p, l', r) => some (p, .tup l', r)
    | none => none
  | v => if noId v then some (true, v, []) else none

/-! ### Effects -/
abbrev KT := V → Zm → Nat → List Nat → List Nat → Prop
abbrev CL := V → List V → Zm → Nat → KT → Prop
def upK (l : List (Nat × Blk)) : Zm → (Zm → Prop) → Prop := @List.rec (Nat × Blk) (fun _ => Zm → (Zm → Prop) → Prop) (fun zm K => K zm) (fun x _ ih zm K => ih zm fun zm => forceB x.2 fun b => setTK b (enc x.1) zm K) l
def nwK (l : List Blk) : Zm → Nat → (Zm → Nat → Prop) → Prop := @List.rec Blk (fun _ => Zm → Nat → (Zm → Nat → Prop) → Prop) (fun zm nx K => K zm nx) (fun b _ ih zm nx K => forceB b fun b => setTK b (enc nx) zm fun zm => forceN (Nat.succ nx) fun nx => ih zm nx K) l
def apK (e : Eff) (zm : Zm) (nx : Nat) (K : KT) : Prop := upK e.up zm fun zm => nwK e.nw zm nx fun zm nx => K e.v zm nx (e.up.map (·.1)) e.rd
def rsK (o : Op) (r : RS) (zm : Zm) (nx : Nat) (K : KT) : Prop := @RS.rec (fun _ => Prop) (BadV o) (fun e => apK e zm nx K) (fun c e => cnd c (apK e zm nx K)) (fun p e => p ∧ apK e zm nx K) r
def ev (G : Nat → V) (tm : Tm) : Operand → V := opv G (tv tm)
def yop (cl : CL) (P : Program) (G : Nat → V) (tm : Tm) (o : Op) (zm : Zm) (nx : Nat) (K : KT) : Prop :=
  match o with
  | .call ⟨.value f, args, _⟩ => cl (ev G tm f) (args.toList.map (ev G tm)) zm nx K
  | o => rsK o (yop1 P o (ev G tm) (gm zm) nx) zm nx K

/-! ### Guards, forks -/
abbrev K3 := Exit → Tm → Zm → Nat → Prop
abbrev RUN := Code → Tm → Zm → Nat → K3 → Prop
def putD (d : Option Tmp) (v : V) (tm : Tm) (f : Tm → Prop) : Prop := @Option.rec Tmp (fun _ => Prop) (f tm) (fun d => forceV v fun v => setTK v (enc d) tm f) d
def two (b : Bool) (t : Nat) (tm : Tm) (f : Bool → Tm → Prop) : Prop := alt b (setTK (.bool true) (enc t) tm (f true)) (setTK (.bool false) (enc t) tm (f false))
def grdV (v : V) (want : Bool) (d : Nat) (tm : Tm) (y n : Tm → Prop) : Prop := match v with
  | .bool b => two b d tm fun b tm => @Bool.rec (fun _ => Prop) (@Bool.rec (fun _ => Prop) (y tm) (n tm) b) (@Bool.rec (fun _ => Prop) (n tm) (y tm) b) want
  | .tup .nl => n tm
  | _ => (BadN 1)
def condK (G : Nat → V) (tm : Tm) (c : Operand) (f : Bool → Tm → Prop) : Prop := match c with
  | .tmp t => match tv tm t with
    | .bool b => two b t tm f
    | _ => (BadN 2)
  | c => match ev G tm c with
    | .bool b => alt b (f true tm) (f false tm)
    | _ => (BadN 3)
def dstAt (ops : List Oper) (j : Nat) : Option Tmp := (ops[j]?).bind (·.dst)
def grdK (ops : List Oper) (g : Option (Nat × Bool)) (tm : Tm) (y n : Tm → Prop) : Prop := match g with
  | none => y tm
  | some (j, want) => match dstAt ops j with
    | none => (BadN 4)
    | some d => grdV (tv tm d) want d tm y n
def ropO (cl : CL) (P : Program) (G : Nat → V) (ops : List Oper) (o : Oper) (tm : Tm) (zm : Zm) (nx : Nat) (K : Tm → Zm → Nat → Prop) : Prop :=
  grdK ops o.guard tm (fun tm => yop cl P G tm o.op zm nx fun v zm nx _ _ => putD o.dst v tm fun tm => K tm zm nx) (fun tm => putD o.dst (.tup .nl) tm fun tm => K tm zm nx)
def rops (cl : CL) (P : Program) (G : Nat → V) (ops l : List Oper) : (tm : Tm) → (zm : Zm) → Nat → (Tm → Zm → Nat → Prop) → Prop :=
  @List.rec Oper (fun _ => Tm → Zm → Nat → (Tm → Zm → Nat → Prop) → Prop) (fun tm zm nx K => K tm zm nx) (fun o _ ih tm zm nx K => ropO cl P G ops o tm zm nx fun tm zm nx => ih tm zm nx K) l

/-! ### Results -/
def rvO (P : Program) (tm : Tm) (zm : Zm) (r : ResultVar) : Option V := match r with
  | .tmp t => some (tv tm t)
  | .cell a t => match tshape P t, P.underlying t with
    | some s, some _ => match tv tm a with
      | .ptr id p s' => match gm zm id with
        | some blk => if blk.alive && s'.beq s then some (blk.v.path p) else none
        | none => none
      | _ => none
    | _, _ => none
def rvL (P : Program) (tm : Tm) (zm : Zm) : List ResultVar → Option V
  | [] => some .nl
  | r :: l => match rvO P tm zm r, rvL P tm zm l with
    | some v, some w => some (.cons v w)
    | _, _ => none
def rvA (P : Program) (tm : Tm) (zm : Zm) (l : List ResultVar) : Option V := match l with
  | [r] => rvO P tm zm r
  | l => (rvL P tm zm l).map .tup
def someK (v : Option V) (K : V → Prop) : Prop := match v with
  | some v => K v
  | none => (BadN 5)
def retK (P : Program) (rs : List ResultVar) (K : V → Zm → Nat → Prop) (e : Exit) (tm : Tm) (zm : Zm) (nx : Nat) : Prop := match e with
  | .normal => someK (rvA P tm zm rs) fun v => K v zm nx
  | .ret => someK (rvA P tm zm rs) fun v => K v zm nx
  | _ => (BadN 6)
def bindK (l : List V) : Nat → Tm → (Tm → Prop) → Prop := @List.rec V (fun _ => Nat → Tm → (Tm → Prop) → Prop) (fun _ t K => K t) (fun x _ ih i t K => setTK x (enc i) t fun t => ih (Nat.succ i) t K) l

/-! ### Calls -/
abbrev CTab := FuncId → Option CSpec
def callB (run : RUN) (P : Program) (fid : FuncId) (l : List V) (zm : Zm) (nx : Nat) (K : V → Zm → Nat → Prop) : Prop :=
  match P.funcs[fid]? with
  | some fn => match fn.body with
    | some c => bindK l 0 .e fun tm => run c tm zm nx (retK P fn.results.toList K)
    | none => (BadN 7)
  | none => (BadN 8)
/-- By its contract. -/
def seqC (c : CSpec) (zm : Zm) (nx : Nat) (args : V) (K : KT) : Prop :=
  @Bool.rec (fun _ => Prop) (cnd (noId args && c.pre (unL args)) (K (borrow (c.res (unL args))) zm nx [] [])) (cnd (c.pre (unL (frz (gm zm) 12 args))) (K (c.res (unL (frz (gm zm) 12 args))) zm nx [] [])) c.fresh
def lendR (c : CSpec) (l : V) : V := @Bool.rec (fun _ => V) (borrow (c.res (unL l))) (c.res (unL l)) c.fresh
def isoC (c : CSpec) (zm : Zm) (nx : Nat) (args : V) (K : KT) : Prop := match resM (gm zm) args with
  | some (p, l, rd) => cnd ((c.fresh || rd.isEmpty) && (p && c.pre (unL l))) (K (lendR c l) zm nx [] rd)
  | none => (BadN 9)
def callY (con : CSpec → Zm → Nat → V → KT → Prop) (run : RUN) (P : Program) (ct : CTab) (zr : Zm) (f : V) (l : List V) (zm : Zm) (nx : Nat) (K : KT) : Prop := match f with
  | .fn fid caps => match ct fid with
    | some c => con c zm nx (appL l caps) K
    | none => callB run P fid (l ++ unL caps) zr nx fun v zm nx => K v zm nx [] []
  | _ => (BadN 10)
def seqCL (run : RUN) (P : Program) (ct : CTab) : CL := fun f l zm nx K => callY seqC run P ct zm f l zm nx K
/-- A call that looks at nothing that was there. -/
def isoCL (run : RUN) (P : Program) (ct : CTab) : CL := fun f l zm nx K => callY isoC run P ct .e f l zm nx fun v z nx _ rd => K v zm nx [] rd

/-! ### Code -/
def seqK (run : RUN) (b : Code) (K : K3) (e : Exit) : Tm → Zm → Nat → Prop := match e with
  | .normal => fun tm zm nx => run b tm zm nx K
  | e => K e
def blockK (id : Nat) (K : K3) (e : Exit) : Tm → Zm → Nat → Prop := match e with
  | .exit i => @Bool.rec (fun _ => Tm → Zm → Nat → Prop) (K (.exit i)) (K .normal) (Nat.beq i id)
  | e => K e
def scopeK (K : K3) (e : Exit) : Tm → Zm → Nat → Prop := match e with
  | .goto _ => fun _ _ _ => (BadN 11)
  | e => K e
/-! ### Regions in whatever order -/
inductive ZTE where
  | mk (o : Oper) (lo hi : Nat) (up rd : List Nat)
def ZTE.o : ZTE → Oper | .mk o _ _ _ _ => o
def ZTE.lo : ZTE → Nat | .mk _ l _ _ _ => l
def ZTE.hi : ZTE → Nat | .mk _ _ h _ _ => h
def ZTE.up : ZTE → List Nat | .mk _ _ _ u _ => u
def ZTE.rd : ZTE → List Nat | .mk _ _ _ _ r => r
def inNew (te : ZTE) (id : Nat) : Bool := Nat.ble te.lo id && Nat.ble (Nat.succ id) te.hi
def zin (te : ZTE) (id : Nat) : Bool := te.up.any (fun j => Nat.beq j id) || inNew te id
def zrd (te : ZTE) (id : Nat) : Bool := te.rd.any fun j => Nat.beq j id
def zclashM (te te' : ZTE) : Bool :=
  te'.up.any (fun id => zin te id || zrd te id) || te'.rd.any (zin te) || te.up.any (inNew te') || te.rd.any (inNew te') || (Nat.ble (Nat.succ te.lo) te'.hi && Nat.ble (Nat.succ te'.lo) te.hi)
def edgeO (o : Oper) (k : Nat) : Bool := o.after.any fun e => Region.binds .any e && e.on == k
def clashO (o o' : Oper) (ops : Array Oper) : Bool := clash ⟨o, skipE, 0, false⟩ ⟨o', skipE, 0, false⟩ ops
def drawZ (ops : Array Oper) : List ZTE → Bool
  | [] => true
  | te :: r => drawZ ops r && (te.o.after.all fun e => !(Region.binds .any e) || decide (e.on < r.length)) && against te r
where against (te : ZTE) : List ZTE → Bool
  | [] => true
  | te' :: r' => (edgeO te.o r'.length || !(clashO te.o te'.o ops || zclashM te te')) && against te r'
def rdrO (cl : CL) (P : Program) (G : Nat → V) (ops : List Oper) (o : Oper) (tm : Tm) (zm : Zm) (nx : Nat) (K : Tm → Zm → Nat → ZTE → Prop) : Prop :=
  grdK ops o.guard tm (fun tm => yop cl P G tm o.op zm nx fun v zm nx' up rd => putD o.dst v tm fun tm => K tm zm nx' (.mk o nx nx' up rd))
    (fun tm => putD o.dst (.tup .nl) tm fun tm => K tm zm nx (.mk o nx nx [] []))
def rdraw (cl : CL) (P : Program) (G : Nat → V) (ops l : List Oper) : (tm : Tm) → (zm : Zm) → Nat → List ZTE → (Tm → Zm → Nat → List ZTE → Prop) → Prop :=
  @List.rec Oper (fun _ => Tm → Zm → Nat → List ZTE → (Tm → Zm → Nat → List ZTE → Prop) → Prop) (fun tm zm nx tr K => K tm zm nx tr) (fun o _ ih tm zm nx tr K => rdrO cl P G ops o tm zm nx fun tm zm nx te => ih tm zm nx (te :: tr) K) l
def regK (run : RUN) (P : Program) (G : Nat → V) (ct : CTab) (ops : List Oper) (tm : Tm) (zm : Zm) (nx : Nat) (K : K3) : Prop := rops (seqCL run P ct) P G ops ops tm zm nx (K .normal)
def drwK (run : RUN) (P : Program) (G : Nat → V) (ct : CTab) (ops : Array Oper) (tm : Tm) (zm : Zm) (nx : Nat) (K : K3) : Prop :=
  rdraw (isoCL run P ct) P G ops.toList ops.toList tm zm nx [] fun tm zm nx tr => cnd (drawZ ops tr) (K .normal tm zm nx)
def step (P : Program) (G : Nat → V) (ct : CTab) (u : Bool) (run : RUN) (c : Code) (tm : Tm) (zm : Zm) (nx : Nat) (K : K3) : Prop := match c with
  | .skip => K .normal tm zm nx
  | .label _ => K .normal tm zm nx
  | .region _ ops draw => @Bool.rec (fun _ => Prop) (regK run P G ct ops.toList tm zm nx K) (drwK run P G ct ops tm zm nx K) draw
  | .seq a b => run a tm zm nx (seqK run b K)
  | .cond c x y => condK G tm c fun b tm => @Bool.rec (fun _ => Prop) (run y tm zm nx K) (run x tm zm nx K) b
  | .block id b => run b tm zm nx (blockK id K)
  | .loop b => @Bool.rec (fun _ => Prop) (BadN 12) (run b tm zm nx (seqK run (.loop b) K)) u
  | .exit i => K (.exit i) tm zm nx
  | .scope b => run b tm zm nx (scopeK K)
  | .ret => K .ret tm zm nx
  | _ => (BadN 13)
def run (P : Program) (G : Nat → V) (ct : CTab) (u : Bool) (fuel : Nat) : RUN :=
  @Nat.rec (fun _ => RUN) (fun _ _ _ _ _ => (BadN 14)) (fun _ run c tm zm nx K => step P G ct u run c tm zm nx K) fuel
end
end Go.Y
