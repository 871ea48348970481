/- The run. No condition. -/
import Derived.Test.YtkjoldifiniliaaK9
set_option linter.unusedVariables false
set_option linter.unusedSimpArgs false
set_option linter.constructorNameAsVariable false
namespace Go.K
open Go.Ab Go.RowKit Go.Y
noncomputable section
variable [KGl]

abbrev KTm := Tr KV
def tget (tr : KTm) (t : Nat) : KV := get .unk (enc t) tr
abbrev K3 := Exit → KTm → KZ → Nat → Nat → Prop
/-- 'mask': which temporaries live on; 'lo': what lies below is not written; 'mx': names below it have been taken. -/
abbrev RUN := Nat → Nat → Code → KTm → KZ → Nat → Nat → K3 → Prop
abbrev KO := KV → KZ → Nat → Nat → List Nat → List Nat → Bool → Prop
abbrev KSpec := List KV → (KV → Prop) → Prop
/-- 'md': 1: it writes nothing that was there, and hands back no new name. -/
structure KEnv where
  P : Program
  ct : FuncId → Option KSpec
  md : FuncId → Nat
  km : FuncId → Nat
def keepB (mask t : Nat) : Bool := Nat.beq (Nat.mod (Nat.shiftRight mask t) 2) 1
def putC (d : Nat) (v : KV) (τ : Nat → KV) : Nat → KV := fun t => @Bool.rec (fun _ => KV) (τ t) v (Nat.beq t d)
def putK (d : Option Tmp) (v : KV) (τ : Nat → KV) (K : (Nat → KV) → Prop) : Prop := @Option.rec Tmp (fun _ => Prop) (K τ) (fun d => fV v fun v => K fun t => @Bool.rec (fun _ => KV) (τ t) v (Nat.beq t d)) d
/-- What lives on is written down. -/
def flush (mask : Nat) (τ : Nat → KV) (ops : List Oper) : KTm → (KTm → Prop) → Prop := @List.rec Oper (fun _ => KTm → (KTm → Prop) → Prop) (fun tr K => K tr)
  (fun o _ ih tr K => @Option.rec Tmp (fun _ => Prop) (ih tr K) (fun d => @Bool.rec (fun _ => Prop) (ih tr K) (fV (τ d) fun v => setTK v (enc d) tr fun tr => ih tr K) (keepB mask d)) o.dst) ops

/-! ### Guards, forks -/
def clB : Bool := KGl.cl
/-- Of a test; where not all is known, it is known behind. -/
def kalt (b : Bool) (y n : Prop) (y' n' : Prop) : Prop := @Bool.rec (fun _ => Prop) (alt b y' n') (alt b y n) clB
def gV (v : KV) (want : Bool) (d : Nat) (τ : Nat → KV) (y n : (Nat → KV) → Prop) : Prop :=
  onBool (fun b => @Bool.rec (fun _ => Prop) (kalt b (n τ) (y τ) (n (putC d (.bool true) τ)) (y (putC d (.bool false) τ))) (kalt b (y τ) (n τ) (y (putC d (.bool true) τ)) (n (putC d (.bool false) τ))) want)
    (onTup (fun l => onNl (n τ) (BadN 1) l) (BadN 1) v) v
def kgrd (ops : List Oper) (g : Option (Nat × Bool)) (τ : Nat → KV) (y n : (Nat → KV) → Prop) : Prop :=
  @Option.rec (Nat × Bool) (fun _ => Prop) (y τ) (pr fun j want => os 4 (fun d => gV (τ d) want d τ y n) (dstAt ops j)) g
def condT (t : Nat) (tr : KTm) (f : Bool → KTm → Prop) : Prop := onBool (fun b => kalt b (f true tr) (f false tr) (setTK (.bool true) (enc t) tr (f true)) (setTK (.bool false) (enc t) tr (f false))) (BadN 2) (tget tr t)
def condO (v : KV) (tr : KTm) (f : Bool → KTm → Prop) : Prop := onBool (fun b => alt b (f true tr) (f false tr)) (BadN 3) v
def kcond (c : Operand) (tr : KTm) (f : Bool → KTm → Prop) : Prop := @Operand.rec (fun _ => KTm → (Bool → KTm → Prop) → Prop) (fun t tr f => condT t tr f) (fun v tr f => condO (kofVal v) tr f) (fun g tr f => condO (KGl.g g) tr f) (fun _ _ _ => BadN 3) c tr f

/-! ### Results -/
def rvC (s : Shape) (v : KV) (zm : KZ) (K : KV → Prop) : Prop := onPtr (fun id p s' => oB zm id fun k _ b => chk (nd (isAl k) (s'.beq s)) 170 (fV (kpath p b) K)) (BadN 171) v
def rvO (P : Program) (τ : Nat → KV) (zm : KZ) (r : ResultVar) (K : KV → Prop) : Prop := @ResultVar.rec (fun _ => Prop) (fun t => K (τ t)) (fun a t => os 172 (fun s => rvC s (τ a) zm K) (ldS P t)) r
def rvL (P : Program) (τ : Nat → KV) (zm : KZ) (l : List ResultVar) : (KV → Prop) → Prop := @List.rec ResultVar (fun _ => (KV → Prop) → Prop) (fun K => K .nl) (fun r _ ih K => rvO P τ zm r fun x => ih fun w => K (.cons x w)) l
def rvA (P : Program) (τ : Nat → KV) (zm : KZ) (l : List ResultVar) (K : KV → Prop) : Prop := match l with
  | [r] => rvO P τ zm r K
  | l => rvL P τ zm l fun w => K (.tup w)
def retK (P : Program) (rs : List ResultVar) (K : KV → KZ → Nat → Nat → Prop) (e : Exit) (tr : KTm) (zm : KZ) (nx mx : Nat) : Prop := match e with
  | .normal => rvA P (tget tr) zm rs fun v => K v zm nx mx
  | .ret => rvA P (tget tr) zm rs fun v => K v zm nx mx
  | _ => BadN 6
def bindA (mask : Nat) (l : List KV) : Nat → KTm → (KTm → Prop) → Prop := @List.rec KV (fun _ => Nat → KTm → (KTm → Prop) → Prop) (fun _ t K => K t) (fun x _ ih i t K => @Bool.rec (fun _ => Prop) (ih (Nat.succ i) t K) (setTK x (enc i) t fun t => ih (Nat.succ i) t K) (keepB mask i)) l

/-! ### Calls -/
def fnB (P : Program) (fid : FuncId) : Option (Code × List ResultVar) := match P.funcs[fid]? with
  | some fn => match fn.body with
    | some c => some (c, fn.results.toList)
    | none => none
  | none => none
/-- No name from there on. -/
def kbel (n : Nat) (v : KV) : Bool := @KV.rec (fun _ => Bool) (fun x0 x1 => true) (fun x0 => true) (fun x0 x1 => true) (true) (fun x0 x1 r0 r1 => nd r0 r1) (fun x0 x1 x2 => true) (fun x0 x1 x2 r0 r1 => nd r0 r1) (true) (fun x0 x1 x2 x3 r0 r1 r2 r3 => nd r0 (nd r1 (nd r2 r3))) (fun x0 x1 x2 x3 x4 r0 r1 r2 r3 r4 => nd r0 (nd r1 (nd r2 (nd r3 r4)))) (fun x0 x1 x2 => Nat.blt x0 n) (fun x0 x1 x2 => Nat.blt x0 n) (fun x0 x1 x2 x3 x4 x5 => Nat.blt x0 n) (fun x0 x1 x2 r0 => true) (true) (true) (true) (fun x0 x1 x2 x3 x4 x5 r0 => true) (fun x0 x1 r0 => r0) (fun x0 r0 => r0) (true) v
def maxN (a b : Nat) : Nat := @Bool.rec (fun _ => Nat) a b (Nat.ble a b)
/-- In order: with all memory. -/
def callM (m : Nat) (zm0 : KZ) (nx0 : Nat) (K : KO) (v : KV) (zm : KZ) (nx mx : Nat) : Prop :=
  @Nat.rec (fun _ => Prop) (K v zm nx mx [] [] true) (fun _ _ => chk (kbel nx0 v) 173 (fN (maxN nx mx) fun mx => K v zm0 nx0 mx [] [] true)) m
/-- In whatever order: with all memory, that is not written. -/
def callD (m : Nat) (zm0 : KZ) (K : KO) (v : KV) (zm : KZ) (nx mx : Nat) : Prop :=
  fN (maxN nx mx) fun nx => @Nat.rec (fun _ => Prop) (K v zm nx nx [] [] true) (fun _ _ => K v zm0 nx nx [] [] true) m
/-- So many blocks, from there on, are laid beside others. -/
def mergeK (zm1 : KZ) (n : Nat) : Nat → KZ → (KZ → Prop) → Prop := @Nat.rec (fun _ => Nat → KZ → (KZ → Prop) → Prop) (fun _ zm K => K zm) (fun _ ih i zm K => setTK (kb zm1 i) (enc i) zm fun zm => forceN (Nat.succ i) fun i => ih i zm K) n
/-- In whatever order: without memory. -/
def callI (m : Nat) (zm0 : KZ) (nx0 : Nat) (K : KO) (v : KV) (zm : KZ) (nx mx : Nat) : Prop :=
  fN (maxN nx mx) fun nx' => @Nat.rec (fun _ => Prop) (mergeK zm (Nat.sub nx' nx0) nx0 zm0 fun zm => K v zm nx' nx' [] [] false) (fun _ _ => K v zm0 nx' nx' [] [] false) m
def allBel (l : List KV) : Bool := @List.rec KV (fun _ => Bool) true (fun x _ ih => nd (kbel 0 x) ih) l
def callR (E : KEnv) (run : RUN) (lo : Nat) (fid : FuncId) (l : List KV) (zm : KZ) (nx mx : Nat) (K : KV → KZ → Nat → Nat → Prop) : Prop :=
  os 174 (pr fun c rs => bindA (E.km fid) l 0 .e fun tr => run (E.km fid) lo c tr zm nx mx (retK E.P rs K)) (fnB E.P fid)
def callB (E : KEnv) (run : RUN) (dr : Bool) (lo : Nat) (fid : FuncId) (l : List KV) (zm : KZ) (nx mx : Nat) (K : KO) : Prop :=
  @Bool.rec (fun _ => Prop) (callR E run (@Nat.rec (fun _ => Nat) lo (fun _ _ => nx) (E.md fid)) fid l zm nx mx (callM (E.md fid) zm nx K))
    (@Bool.rec (fun _ => Prop) (callR E run nx fid l zm nx mx (callD (E.md fid) zm K)) (callR E run nx fid l .e nx mx (callI (E.md fid) zm nx K)) (allBel l)) dr
def unLK (l : KV) (K : List KV → Prop) : Prop := @KV.rec (fun _ => (List KV → Prop) → Prop) (fun x0 x1 => fun K => K []) (fun x0 => fun K => K []) (fun x0 x1 => fun K => K []) (fun K => K []) (fun x0 x1 r0 r1 => fun K => r1 fun l => K (x0 :: l)) (fun x0 x1 x2 => fun K => K []) (fun x0 x1 x2 r0 r1 => fun K => K []) (fun K => K []) (fun x0 x1 x2 x3 r0 r1 r2 r3 => fun K => K []) (fun x0 x1 x2 x3 x4 r0 r1 r2 r3 r4 => fun K => K []) (fun x0 x1 x2 => fun K => K []) (fun x0 x1 x2 => fun K => K []) (fun x0 x1 x2 x3 x4 x5 => fun K => K []) (fun x0 x1 x2 r0 => fun K => K []) (fun K => K []) (fun K => K []) (fun K => K []) (fun x0 x1 x2 x3 x4 x5 r0 => fun K => K []) (fun x0 x1 r0 => fun K => K []) (fun x0 r0 => fun K => K []) (fun K => K []) l K
def appK (l : List KV) : List KV → (List KV → Prop) → Prop := @List.rec KV (fun _ => List KV → (List KV → Prop) → Prop) (fun r K => K r) (fun x _ ih r K => ih r fun r => K (x :: r)) l
def callF (E : KEnv) (run : RUN) (dr : Bool) (lo : Nat) (l : List KV) (zm : KZ) (nx mx : Nat) (K : KO) (fid : FuncId) (caps : KV) : Prop :=
  unLK caps fun cs => appK l cs fun l => @Option.rec KSpec (fun _ => Prop) (callB E run dr lo fid l zm nx mx K) (fun s => s l fun v => fV v fun v => K v zm nx mx [] [] false) (E.ct fid)
inductive BK where
  | len | cap | min | append | copy | bad
def bk (b : Builtin) : BK := match b with
  | .len => .len
  | .cap => .cap
  | .min => .min
  | .append => .append
  | .copy => .copy
  | _ => .bad
def l1 {α : Type} (f : α → Prop) (l : List α) : Prop := @List.rec α (fun _ => Prop) (BadN 175) (fun x r _ => @List.rec α (fun _ => Prop) (f x) (fun _ _ _ => BadN 176) r) l
def l2 {α : Type} (f : α → α → Prop) (l : List α) : Prop := @List.rec α (fun _ => Prop) (BadN 177) (fun x r _ => l1 (f x) r) l
omit [KGl] in
theorem l1_inv {α : Type} {f : α → Prop} {l : List α} (h : l1 f l) : ∃ x, l = [x] ∧ f x := by
  match l, h with
  | [], h => exact (show BadN 175 from h).elim
  | [x], h => exact ⟨x, rfl, h⟩
  | _ :: _ :: _, h => exact (show BadN 176 from h).elim
omit [KGl] in
theorem l2_inv {α : Type} {f : α → α → Prop} {l : List α} (h : l2 f l) : ∃ x y, l = [x, y] ∧ f x y := by
  match l, h with
  | [], h => exact (show BadN 177 from h).elim
  | x :: r, h =>
    obtain ⟨y, rfl, h1⟩ := l1_inv (show l1 (f x) r from h)
    exact ⟨x, y, rfl, h1⟩
def kBuiltin (P : Program) (lo : Nat) (τ : Nat → KV) (b : Builtin) (args : List Operand) (ts : List TypeId) (zm : KZ) (nx : Nat) (K : KT) : Prop :=
  @BK.rec (fun _ => Prop) (l1 (fun x => l1 (fun t => kLen P t (kev τ x) zm nx K) ts) args) (l1 (fun x => l1 (fun t => kCap P t (kev τ x) zm nx K) ts) args) (l2 (fun x y => kMin (kev τ x) (kev τ y) zm nx K) args)
    (l2 (fun x y => l2 (fun t t' => kAppend lo P t t' (kev τ x) (kev τ y) zm nx K) ts) args) (l2 (fun x y => l2 (fun t _ => kCopy lo P t (kev τ x) (kev τ y) zm nx K) ts) args) (BadN 178) (bk b)
/-- What comes of an operation, handed on. -/
def sK (mx : Nat) (K : KO) : KT := fun v zm nx up rd => K v zm nx mx up rd false
abbrev OpK := KEnv → RUN → Bool → Nat → (Nat → KV) → KZ → Nat → Nat → KO → Prop
def oCall (c : Call) : OpK := fun E run dr lo τ zm nx mx K => @Callee.rec (fun _ => Prop) (fun f => onFn (callF E run dr lo (c.args.toList.map (kev τ)) zm nx mx K) (BadV (.call c)) (kev τ f)) (fun _ _ => BadV (.call c)) (fun b => kBuiltin E.P lo τ b c.args.toList c.argTypes.toList zm nx (sK mx K)) c.callee
def oMap (τ : Nat → KV) (l : Array (Nat × Operand)) : List (Nat × KV) := l.toList.map fun x => (x.1, kev τ x.2)
def kop (o : Op) : OpK := @Op.rec (fun _ => OpK) (fun x E run dr lo τ zm nx mx K => K (kev τ x) zm nx mx [] [] false) (fun x E run dr lo τ zm nx mx K => K (kev τ x) zm nx mx [] [] false) (fun c a b E run dr lo τ zm nx mx K => kPick (kev τ c) (kev τ a) (kev τ b) zm nx (sK mx K)) (fun t E run dr lo τ zm nx mx K => kAlloc E.P t zm nx (sK mx K)) (fun t v E run dr lo τ zm nx mx K => kBox E.P t (kev τ v) zm nx (sK mx K)) (fun t ps E run dr lo τ zm nx mx K => kBuild E.P t (oMap τ ps) zm nx (sK mx K)) (fun t n ps E run dr lo τ zm nx mx K => kBS E.P t n (oMap τ ps) zm nx (sK mx K)) (fun t m k v E run dr lo τ zm nx mx K => BadV (.insert t m k v)) (fun t a E run dr lo τ zm nx mx K => kLoad E.P t (kev τ a) zm nx (sK mx K)) (fun t a v E run dr lo τ zm nx mx K => kStore lo E.P t (kev τ a) (kev τ v) zm nx (sK mx K)) (fun g E run dr lo τ zm nx mx K => BadV (.ready g)) (fun g E run dr lo τ zm nx mx K => BadV (.waits g)) (fun x E run dr lo τ zm nx mx K => kNil (kev τ x) zm nx (sK mx K)) (fun op t x y t2 E run dr lo τ zm nx mx K => kBin E.P op t (kev τ x) (kev τ y) zm nx (sK mx K)) (fun op t x E run dr lo τ zm nx mx K => kUn op (kev τ x) zm nx (sK mx K)) (fun s d x E run dr lo τ zm nx mx K => kConv E.P s d (kev τ x) zm nx (sK mx K)) (fun d x E run dr lo τ zm nx mx K => kArr E.P d (kev τ x) zm nx (sK mx K)) (fun t x E run dr lo τ zm nx mx K => BadV (.makeInterface t x)) (fun f a c E run dr lo τ zm nx mx K => kMakeFunc f a.toList (c.toList.map (kev τ)) zm nx (sK mx K)) (fun t r E run dr lo τ zm nx mx K => BadV (.makeMap t r)) (fun t s E run dr lo τ zm nx mx K => BadV (.makeChan t s)) (fun t l c E run dr lo τ zm nx mx K => kMake E.P t (opSame l c) (kev τ l) (kev τ c) zm nx (sK mx K)) (fun t x l h m E run dr lo τ zm nx mx K => kSlice E.P t (kev τ x) (l.map (kev τ)) (h.map (kev τ)) (m.map (kev τ)) zm nx (sK mx K)) (fun t x f E run dr lo τ zm nx mx K => kField E.P t (kev τ x) f zm nx (sK mx K)) (fun t x f E run dr lo τ zm nx mx K => kFieldV E.P t (kev τ x) f zm nx (sK mx K)) (fun t x i E run dr lo τ zm nx mx K => kIndex E.P t (kev τ x) (kev τ i) zm nx (sK mx K)) (fun t x i E run dr lo τ zm nx mx K => kIndexV E.P t (kev τ x) (kev τ i) zm nx (sK mx K)) (fun t x i c E run dr lo τ zm nx mx K => BadV (.lookup t x i c)) (fun t m k v E run dr lo τ zm nx mx K => BadV (.mapUpdate t m k v)) (fun t m k E run dr lo τ zm nx mx K => BadV (.mapEntry t m k)) (fun t m s v E run dr lo τ zm nx mx K => BadV (.entryStore t m s v)) (fun t x E run dr lo τ zm nx mx K => BadV (.range t x)) (fun i s E run dr lo τ zm nx mx K => BadV (.next i s)) (fun i E run dr lo τ zm nx mx K => BadV (.entry i)) (fun x t a c E run dr lo τ zm nx mx K => BadV (.typeAssert x t a c)) (fun x k E run dr lo τ zm nx mx K => kExtract (kev τ x) k zm nx (sK mx K)) oCall (fun c E run dr lo τ zm nx mx K => BadV (.go c)) (fun c E run dr lo τ zm nx mx K => BadV (.defer c)) (fun x E run dr lo τ zm nx mx K => BadV (.panic x)) (fun c x E run dr lo τ zm nx mx K => BadV (.send c x)) (fun t c o E run dr lo τ zm nx mx K => BadV (.recv t c o)) (fun c b E run dr lo τ zm nx mx K => BadV (.select c b)) o

/-! ### Regions -/
def kopr (E : KEnv) (run : RUN) (ops : List Oper) (lo : Nat) (o : Oper) (τ : Nat → KV) (zm : KZ) (nx mx : Nat) (K : (Nat → KV) → KZ → Nat → Nat → Prop) : Prop :=
  kgrd ops o.guard τ (fun τ => kop o.op E run false lo τ zm nx mx fun v zm nx mx _ _ _ => putK o.dst v τ fun τ => K τ zm nx mx) (fun τ => putK o.dst (.tup .nl) τ fun τ => K τ zm nx mx)
def krops (E : KEnv) (run : RUN) (ops : List Oper) (lo : Nat) (l : List Oper) : (Nat → KV) → KZ → Nat → Nat → ((Nat → KV) → KZ → Nat → Nat → Prop) → Prop :=
  @List.rec Oper (fun _ => (Nat → KV) → KZ → Nat → Nat → ((Nat → KV) → KZ → Nat → Nat → Prop) → Prop) (fun τ zm nx mx K => K τ zm nx mx) (fun o _ ih τ zm nx mx K => kopr E run ops lo o τ zm nx mx fun τ zm nx mx => ih τ zm nx mx K) l
/-- What is written down of an operation. -/
inductive KTE where
  | mk (i : Nat) (o : Oper) (lo hi : Nat) (up rd : List Nat) (all : Bool)
def KTE.i (z : KTE) : Nat := @KTE.rec (fun _ => Nat) (fun i _ _ _ _ _ _ => i) z
def KTE.o (z : KTE) : Oper := @KTE.rec (fun _ => Oper) (fun _ o _ _ _ _ _ => o) z
def KTE.lo (z : KTE) : Nat := @KTE.rec (fun _ => Nat) (fun _ _ l _ _ _ _ => l) z
def KTE.hi (z : KTE) : Nat := @KTE.rec (fun _ => Nat) (fun _ _ _ h _ _ _ => h) z
def KTE.up (z : KTE) : List Nat := @KTE.rec (fun _ => List Nat) (fun _ _ _ _ u _ _ => u) z
def KTE.rd (z : KTE) : List Nat := @KTE.rec (fun _ => List Nat) (fun _ _ _ _ _ r _ => r) z
def KTE.all (z : KTE) : Bool := @KTE.rec (fun _ => Bool) (fun _ _ _ _ _ _ a => a) z
def nilN (l : List Nat) : Bool := @List.rec Nat (fun _ => Bool) true (fun _ _ _ => false) l
def orB (a b : Bool) : Bool := @Bool.rec (fun _ => Bool) b true a
def anyN (f : Nat → Bool) (l : List Nat) : Bool := @List.rec Nat (fun _ => Bool) false (fun x _ ih => orB (f x) ih) l
def KTE.ro (z : KTE) : Bool := nd (nilN z.up) (Nat.beq z.lo z.hi)
def KTE.inact (z : KTE) : Bool := nd z.ro (nd (nilN z.rd) (!z.all))
def knew (z : KTE) (id : Nat) : Bool := nd (Nat.ble z.lo id) (Nat.ble (Nat.succ id) z.hi)
def kin (z : KTE) (id : Nat) : Bool := orB (anyN (fun j => Nat.beq j id) z.up) (knew z id)
def krd (z : KTE) (id : Nat) : Bool := orB (anyN (fun j => Nat.beq j id) z.rd) (nd z.all (Nat.blt id z.lo))
/-- 'z': later; 'w': earlier. -/
def kclash (z w : KTE) : Bool :=
  orB (anyN (fun id => orB (kin z id) (krd z id)) w.up) (orB (anyN (kin z) w.rd) (orB (anyN (knew w) z.up) (orB (anyN (knew w) z.rd) (orB (nd (Nat.ble (Nat.succ z.lo) w.hi) (Nat.ble (Nat.succ w.lo) z.hi))
    (orB (nd z.all (nd (Nat.blt w.lo w.hi) (Nat.blt w.lo z.lo))) (orB (nd w.all (anyN (fun id => Nat.blt id w.lo) z.up)) (nd w.all (nd (Nat.blt z.lo z.hi) (Nat.blt z.lo w.lo)))))))))
def edgeK (ops : Array Oper) (o : Oper) (k : Nat) : Bool := @Nat.rec (fun _ => Bool) (reach ops 6 o 0) (fun p _ => reach ops 6 o (Nat.succ p)) k
def pairD (ops : Array Oper) (z w : KTE) (o : Oper) (k : Nat) : Bool := @Bool.rec (fun _ => Bool) (@Bool.rec (fun _ => Bool) (orB (edgeK ops o k) (!kclash z w)) true (nd z.ro w.ro)) true w.inact
def agD (ops : Array Oper) (z : KTE) (o : Oper) (l : List KTE) : Bool := @List.rec KTE (fun _ => Bool) true (fun w _ ih => nd ih (@KTE.rec (fun _ => Bool) (fun k o' lo hi up rd all => pairD ops z (.mk k o' lo hi up rd all) o k) w)) l
def drawD (ops : Array Oper) (l : List KTE) : Bool := @List.rec KTE (fun _ => Bool) true (fun z r ih => nd ih (@KTE.rec (fun _ => Bool) (fun i o lo hi up rd all => @Bool.rec (fun _ => Bool) (agD ops (.mk i o lo hi up rd all) o r) true (KTE.inact (.mk i o lo hi up rd all))) z)) l
def agS (ops : Array Oper) (o : Oper) : List Oper → Bool
  | [] => true
  | o' :: r => nd (agS ops o r) (edgeO o r.length || !clashO o o' ops)
def drawSL (ops : Array Oper) : List Oper → Bool
  | [] => true
  | o :: r => nd (drawSL ops r) (nd (o.after.all fun e => !(Region.binds .any e) || decide (e.on < r.length)) (agS ops o r))
def drawS (ops : Array Oper) : Bool := drawSL ops ops.toList.reverse
def kdro (E : KEnv) (run : RUN) (ops : List Oper) (lo : Nat) (o : Oper) (i : Nat) (τ : Nat → KV) (zm : KZ) (nx mx : Nat) (K : (Nat → KV) → KZ → Nat → Nat → KTE → Prop) : Prop :=
  kgrd ops o.guard τ (fun τ => kop o.op E run true lo τ zm nx mx fun v zm nx' mx up rd all => putK o.dst v τ fun τ => K τ zm nx' mx (.mk i o nx nx' up rd all)) (fun τ => putK o.dst (.tup .nl) τ fun τ => K τ zm nx mx (.mk i o nx nx [] [] false))
def kdraw (E : KEnv) (run : RUN) (ops : List Oper) (lo : Nat) (l : List Oper) : Nat → (Nat → KV) → KZ → Nat → Nat → List KTE → ((Nat → KV) → KZ → Nat → Nat → List KTE → Prop) → Prop :=
  @List.rec Oper (fun _ => Nat → (Nat → KV) → KZ → Nat → Nat → List KTE → ((Nat → KV) → KZ → Nat → Nat → List KTE → Prop) → Prop) (fun _ τ zm nx mx zs K => K τ zm nx mx zs) (fun o _ ih i τ zm nx mx zs K => kdro E run ops lo o i τ zm nx mx fun τ zm nx mx z => forceN (Nat.succ i) fun i => ih i τ zm nx mx (z :: zs) K) l

/-! ### Code -/
abbrev CdK := KEnv → RUN → Nat → Nat → KTm → KZ → Nat → Nat → K3 → Prop
def kseq (run : RUN) (mask lo : Nat) (b : Code) (K : K3) (e : Exit) (tr : KTm) (zm : KZ) (nx mx : Nat) : Prop := match e with
  | .normal => run mask lo b tr zm nx mx K
  | e => K e tr zm nx mx
def kblk (id : Nat) (K : K3) (e : Exit) (tr : KTm) (zm : KZ) (nx mx : Nat) : Prop := match e with
  | .exit i => @Bool.rec (fun _ => Prop) (K (.exit i) tr zm nx mx) (K .normal tr zm nx mx) (Nat.beq i id)
  | e => K e tr zm nx mx
def kscope (K : K3) (e : Exit) (tr : KTm) (zm : KZ) (nx mx : Nat) : Prop := match e with
  | .goto _ => BadN 11
  | e => K e tr zm nx mx
def cReg (ops : Array Oper) : CdK := fun E run mask lo tr zm nx mx K => krops E run ops.toList lo ops.toList (tget tr) zm nx mx fun τ zm nx mx => flush mask τ ops.toList tr fun tr => K .normal tr zm nx mx
def cDrw (ops : Array Oper) : CdK := fun E run mask lo tr zm nx mx K => chk (drawS ops) 180 (kdraw E run ops.toList lo ops.toList 0 (tget tr) zm nx mx [] fun τ zm nx mx zs => chk (drawD ops zs) 181 (flush mask τ ops.toList tr fun tr => K .normal tr zm nx mx))
def kcode (c : Code) : CdK := @Code.rec (fun _ => CdK) (fun _ _ _ _ tr zm nx mx K => K .normal tr zm nx mx) (fun _ ops draw => @Bool.rec (fun _ => CdK) (cReg ops) (cDrw ops) draw)
  (fun a b _ _ _ run mask lo tr zm nx mx K => run mask lo a tr zm nx mx (kseq run mask lo b K)) (fun c x y _ _ _ run mask lo tr zm nx mx K => kcond c tr fun b tr => @Bool.rec (fun _ => Prop) (run mask lo y tr zm nx mx K) (run mask lo x tr zm nx mx K) b)
  (fun id b _ _ run mask lo tr zm nx mx K => run mask lo b tr zm nx mx (kblk id K)) (fun b _ _ run mask lo tr zm nx mx K => run mask lo b tr zm nx mx (kseq run mask lo (.loop b) K))
  (fun _ _ _ _ _ _ _ _ _ _ _ _ _ _ _ => BadN 12) (fun i _ _ _ _ tr zm nx mx K => K (.exit i) tr zm nx mx) (fun b _ _ run mask lo tr zm nx mx K => run mask lo b tr zm nx mx (kscope K)) (fun _ _ _ _ _ tr zm nx mx K => K .normal tr zm nx mx)
  (fun _ _ _ _ _ _ _ _ _ _ => BadN 13) (fun _ _ _ _ tr zm nx mx K => K .ret tr zm nx mx) (fun _ _ _ _ _ _ _ _ _ _ => BadN 14) c
def krun (E : KEnv) (fuel : Nat) : RUN := @Nat.rec (fun _ => RUN) (fun _ _ _ _ _ _ _ _ => BadN 15) (fun _ run mask lo c tr zm nx mx K => kcode c E run mask lo tr zm nx mx K) fuel
end
end Go.K
