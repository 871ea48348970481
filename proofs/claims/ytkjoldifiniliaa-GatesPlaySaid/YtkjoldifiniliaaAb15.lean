/- Equations for the simplifier. No condition. -/
import Derived.Test.YtkjoldifiniliaaAb14
set_option linter.unusedVariables false
set_option linter.unusedSimpArgs false
namespace Go.Ab
open Go.RowKit

def rrS (P : Program) (G : Nat → V) (ct : FuncId → Option CSpec) (ops : Array Oper) (r : Res) (o : Oper) (rest : List Oper) (S : St) (tr : List TE) (K : St → List TE → Prop) : Prop := match r with
  | some (p, e) => p ∧ rr P G ct ops rest (S.ap o.dst e) (⟨o, e, S.mem.length, false⟩ :: tr) K
  | none => False

def rrG (P : Program) (G : Nat → V) (ct : FuncId → Option CSpec) (ops : Array Oper) (v : V) (d : Tmp) (want : Bool) (o : Oper) (rest : List Oper) (S : St) (tr : List TE) (K : St → List TE → Prop) : Prop := match v with
  | .bool b =>
          (b = want → match aexec P G ct o.op (S.ap (some d) (pureE (.bool want))) with
            | some (p, e) => p ∧ rr P G ct ops rest ((S.ap (some d) (pureE (.bool want))).ap o.dst e) (⟨o, e, S.mem.length, false⟩ :: tr) K
            | none => False) ∧
          (b = !want → rr P G ct ops rest ((S.ap (some d) (pureE (.bool !want))).ap o.dst skipE) (⟨o, skipE, S.mem.length, true⟩ :: tr) K)
  | .tup .nl => rr P G ct ops rest (S.ap o.dst skipE) (⟨o, skipE, S.mem.length, true⟩ :: tr) K
  | _ => False

section
variable {P : Program} {G : Nat → V} {ct : FuncId → Option CSpec} {ops : Array Oper} {K : St → List TE → Prop} {Q : Exit → St → Prop}

theorem rr_nil {S : St} {tr : List TE} : rr P G ct ops [] S tr K = K S tr := rfl
theorem rr_free {d : Option Tmp} {op : Op} {ty : TypeId} {ps : String} {af : Array Edge} {l : List Oper} {S : St} {tr : List TE} :
    rr P G ct ops (⟨d, op, ty, ps, af, none⟩ :: l) S tr K = rrS P G ct ops (aexec P G ct op S) ⟨d, op, ty, ps, af, none⟩ l S tr K := propext Iff.rfl
def dstOf (ops : List Oper) (j : Nat) : Option Tmp := (ops[j]?).bind (·.dst)
def rrH (P : Program) (G : Nat → V) (ct : FuncId → Option CSpec) (ops : Array Oper) (x : Option Tmp) (want : Bool) (o : Oper) (rest : List Oper) (S : St) (tr : List TE) (K : St → List TE → Prop) : Prop := match x with
  | some x => rrG P G ct ops (S.t x) x want o rest S tr K
  | none => False
theorem rr_guard {d : Option Tmp} {op : Op} {ty : TypeId} {ps : String} {af : Array Edge} {j : Nat} {want : Bool} {l ol : List Oper} {S : St} {tr : List TE} :
    rr P G ct ⟨ol⟩ (⟨d, op, ty, ps, af, some (j, want)⟩ :: l) S tr K = rrH P G ct ⟨ol⟩ (dstOf ol j) want ⟨d, op, ty, ps, af, some (j, want)⟩ l S tr K := by
  simp only [rr, rrH, dstOf, List.getElem?_toArray]
  cases ol[j]?.bind fun x => x.dst with
  | none => rfl
  | some x =>
    simp only [rrG]
    cases S.t x with
    | tup l => cases l <;> rfl
    | _ => rfl
theorem dstOf_zero {d : Option Tmp} {op : Op} {ty : TypeId} {ps : String} {af : Array Edge} {g : Option (Nat × Bool)} {l : List Oper} : dstOf (⟨d, op, ty, ps, af, g⟩ :: l) 0 = d := rfl
theorem dstOf_succ {o : Oper} {l : List Oper} {j : Nat} : dstOf (o :: l) (j + 1) = dstOf l j := rfl
theorem rrH_some {x : Tmp} {want : Bool} {o : Oper} {l : List Oper} {S : St} {tr : List TE} : rrH P G ct ops (some x) want o l S tr K = rrG P G ct ops (S.t x) x want o l S tr K := propext Iff.rfl
theorem rrS_some {p : Prop} {e : Eff} {o : Oper} {l : List Oper} {S : St} {tr : List TE} :
    rrS P G ct ops (some (p, e)) o l S tr K = (p ∧ rr P G ct ops l (S.ap o.dst e) (⟨o, e, S.mem.length, false⟩ :: tr) K) := propext Iff.rfl
theorem rrS_ok {e : Eff} {o : Oper} {l : List Oper} {S : St} {tr : List TE} :
    rrS P G ct ops (okP e) o l S tr K = rr P G ct ops l (S.ap o.dst e) (⟨o, e, S.mem.length, false⟩ :: tr) K := by
  simp [rrS, okP]
theorem rrG_bool {b : Bool} {d : Tmp} {want : Bool} {o : Oper} {l : List Oper} {S : St} {tr : List TE} :
    rrG P G ct ops (.bool b) d want o l S tr K = if b = want then rrS P G ct ops (aexec P G ct o.op (S.ap (some d) (pureE (.bool want)))) o l (S.ap (some d) (pureE (.bool want))) tr K
      else rr P G ct ops l ((S.ap (some d) (pureE (.bool !want))).ap o.dst skipE) (⟨o, skipE, S.mem.length, true⟩ :: tr) K := by
  have h1 : (S.ap (some d) (pureE (.bool want))).mem.length = S.mem.length := by simp [St.ap, apM]
  simp only [rrG, rrS, h1]
  cases b <;> cases want <;> simp
theorem rrG_skip {d : Tmp} {want : Bool} {o : Oper} {l : List Oper} {S : St} {tr : List TE} :
    rrG P G ct ops (.tup .nl) d want o l S tr K = rr P G ct ops l (S.ap o.dst skipE) (⟨o, skipE, S.mem.length, true⟩ :: tr) K := propext Iff.rfl

def vcC (P : Program) (G : Nat → V) (ct : FuncId → Option CSpec) (v : V) (c : Operand) (x y : Code) (Q : Exit → St → Prop) (S : St) : Prop := match v with
  | .bool b => (b = true → vc P G ct x Q (S.lit c true)) ∧ (b = false → vc P G ct y Q (S.lit c false))
  | _ => False
theorem vc_cond {c : Operand} {x y : Code} {S : St} : vc P G ct (.cond c x y) Q S = vcC P G ct (opv G S.t c) c x y Q S := rfl
theorem vcC_bool {b : Bool} {c : Operand} {x y : Code} {S : St} : vcC P G ct (.bool b) c x y Q S = if b = true then vc P G ct x Q (S.lit c true) else vc P G ct y Q (S.lit c false) := by
  cases b <;> simp [vcC]

theorem vc_skip {S : St} : vc P G ct .skip Q S = Q .normal S := rfl
def nK (Q : Exit → St → Prop) (S : St) (_ : List TE) : Prop := Q .normal S
def dK (ops : Array Oper) (Q : Exit → St → Prop) (S : St) (tr : List TE) : Prop := drawOk ops tr = true ∧ Q .normal S
theorem nK_eq {S : St} {tr : List TE} : nK Q S tr = Q .normal S := rfl
theorem dK_eq {S : St} {tr : List TE} : dK ops Q S tr = (drawOk ops tr = true ∧ Q .normal S) := rfl
theorem vc_region {i : Nat} {l : List Oper} {S : St} : vc P G ct (.region i ⟨l⟩ false) Q S = rr P G ct ⟨l⟩ l S [] (nK Q) := rfl
theorem vc_draw {i : Nat} {l : List Oper} {S : St} : vc P G ct (.region i ⟨l⟩ true) Q S = rr P G ct ⟨l⟩ l S [] (dK ⟨l⟩ Q) := rfl

def thenQ (K : St → Prop) (Q : Exit → St → Prop) (e : Exit) (S : St) : Prop := match e with | .normal => K S | e => Q e S
def blockQ (id : Nat) (Q : Exit → St → Prop) (e : Exit) (S : St) : Prop := match e with | .exit id' => if id' = id then Q .normal S else Q (.exit id') S | e => Q e S
def scopeQ (Q : Exit → St → Prop) (e : Exit) (S : St) : Prop := match e with | .goto _ => False | e => Q e S
theorem vc_seq {a b : Code} {S : St} : vc P G ct (.seq a b) Q S = vc P G ct a (thenQ (vc P G ct b Q) Q) S := rfl
theorem thenQ_normal {K : St → Prop} {S : St} : thenQ K Q .normal S = K S := rfl
theorem thenQ_ret {K : St → Prop} {S : St} : thenQ K Q .ret S = Q .ret S := rfl
theorem thenQ_exit {K : St → Prop} {S : St} {i : Nat} : thenQ K Q (.exit i) S = Q (.exit i) S := rfl
theorem vc_block {i : Nat} {c : Code} {S : St} : vc P G ct (.block i c) Q S = vc P G ct c (blockQ i Q) S := rfl
theorem blockQ_normal {i : Nat} {S : St} : blockQ i Q .normal S = Q .normal S := rfl
theorem blockQ_ret {i : Nat} {S : St} : blockQ i Q .ret S = Q .ret S := rfl
theorem blockQ_exit {i j : Nat} {S : St} : blockQ i Q (.exit j) S = if j = i then Q .normal S else Q (.exit j) S := rfl
theorem vc_scope {c : Code} {S : St} : vc P G ct (.scope c) Q S = vc P G ct c (scopeQ Q) S := rfl
theorem scopeQ_normal {S : St} : scopeQ Q .normal S = Q .normal S := rfl
theorem scopeQ_ret {S : St} : scopeQ Q .ret S = Q .ret S := rfl
theorem scopeQ_exit {j : Nat} {S : St} : scopeQ Q (.exit j) S = Q (.exit j) S := rfl
theorem vc_exit {i : Nat} {S : St} : vc P G ct (.exit i) Q S = Q (.exit i) S := rfl
theorem vc_ret {S : St} : vc P G ct .ret Q S = Q .ret S := rfl
theorem vc_label {i : Nat} {S : St} : vc P G ct (.label i) Q S = Q .normal S := rfl

/-! ### Operations -/
theorem x_move {x : Operand} {S : St} : aexec P G ct (.move x) S = okP (pureE (opv G S.t x)) := rfl
theorem x_assign {x : Operand} {S : St} : aexec P G ct (.assign x) S = okP (pureE (opv G S.t x)) := rfl
def pick (c a b : V) : Res := match c with | .bool t => okP (pureE (V.ite t a b)) | _ => none
theorem x_pick {c a b : Operand} {S : St} : aexec P G ct (.pick c a b) S = pick (opv G S.t c) (opv G S.t a) (opv G S.t b) := rfl
theorem pick_bool {t : Bool} {a b : V} : pick (.bool t) a b = okP (pureE (V.ite t a b)) := rfl
theorem x_alloc {t : TypeId} {S : St} : aexec P G ct (.alloc t) S = aAlloc P t S.mem.length := rfl
theorem x_box {t : TypeId} {x : Operand} {S : St} : aexec P G ct (.box t x) S = aBox P t (opv G S.t x) S.mem.length := rfl
theorem x_load {t : TypeId} {x : Operand} {S : St} : aexec P G ct (.load t x) S = aLoad P t (opv G S.t x) S.mem := rfl
theorem x_store {t : TypeId} {x y : Operand} {S : St} : aexec P G ct (.store t x y) S = aStore P t (opv G S.t x) (opv G S.t y) S.mem := rfl
theorem x_nilCheck {x : Operand} {S : St} : aexec P G ct (.nilCheck x) S = aNil (opv G S.t x) := rfl
theorem x_bin {b : BinOp} {t t' : TypeId} {x y : Operand} {S : St} : aexec P G ct (.binOp b t x y t') S = aBin P b t (opv G S.t x) (opv G S.t y) := rfl
theorem x_un {b : UnOp} {t : TypeId} {x : Operand} {S : St} : aexec P G ct (.unOp b t x) S = aUn b (opv G S.t x) := rfl
theorem x_conv {a b : TypeId} {x : Operand} {S : St} : aexec P G ct (.convert a b x) S = aConv P a b (opv G S.t x) := rfl
theorem x_field {t : TypeId} {x : Operand} {f : Nat} {S : St} : aexec P G ct (.fieldAddr t x f) S = aField P t (opv G S.t x) f := rfl
theorem x_index {t : TypeId} {x y : Operand} {S : St} : aexec P G ct (.indexAddr t x y) S = aIndex P t (opv G S.t x) (opv G S.t y) S.mem := rfl
def extr (v : V) (k : Nat) : Res := match v with
    | .tup l => match l.nth k with
      | some v => okP (pureE v)
      | none => none
    | _ => none
theorem x_extract {x : Operand} {k : Nat} {S : St} : aexec P G ct (.extract x k) S = extr (opv G S.t x) k := rfl

theorem opv_tmp {tm : Nat → V} {t : Nat} : opv G tm (.tmp t) = tm t := rfl
theorem opv_const {tm : Nat → V} {v : Value} : opv G tm (.const v) = V.ofVal v := rfl
theorem opv_func {tm : Nat → V} {f : FuncId} : opv G tm (.func f) = .fn f .nl := rfl
theorem St.t_mk {tm : List V} {mem : List Blk} {t : Nat} : St.t ⟨tm, mem⟩ t = tm.getD t .unk := rfl
theorem getD_zero {a d : V} {l : List V} : (a :: l).getD 0 d = a := rfl
theorem getD_succ {a d : V} {l : List V} {n : Nat} : (a :: l).getD (n + 1) d = l.getD n d := rfl
theorem St.ap_pure {tm : List V} {mem : List Blk} {d : Tmp} {v : V} {rd : List Nat} : St.ap ⟨tm, mem⟩ (some d) ⟨v, [], [], rd⟩ = ⟨tm.set d v, mem⟩ := by simp [St.ap, apT, apM]
theorem St.ap_new {tm : List V} {mem : List Blk} {d : Tmp} {v : V} {b : Blk} {rd : List Nat} : St.ap ⟨tm, mem⟩ (some d) ⟨v, [], [b], rd⟩ = ⟨tm.set d v, mem ++ [b]⟩ := by simp [St.ap, apT, apM]
theorem St.ap_up {tm : List V} {mem : List Blk} {v : V} {id : Nat} {b : Blk} {rd : List Nat} : St.ap ⟨tm, mem⟩ none ⟨v, [(id, b)], [], rd⟩ = ⟨tm, mem.set id b⟩ := by simp [St.ap, apT, apM]
theorem St.ap_skip {tm : List V} {mem : List Blk} {d : Tmp} : St.ap ⟨tm, mem⟩ (some d) skipE = ⟨tm.set d (.tup .nl), mem⟩ := by simp [St.ap, apT, apM, skipE]
theorem St.ap_none {tm : List V} {mem : List Blk} {v : V} {rd : List Nat} : St.ap ⟨tm, mem⟩ none ⟨v, [], [], rd⟩ = ⟨tm, mem⟩ := by simp [St.ap, apT, apM]
theorem up_nil {n : Nat} {v : V} {nw : List Blk} {rd : List Nat} : upOk n ⟨v, [], nw, rd⟩ = true := rfl
theorem up_one {n : Nat} {v : V} {id : Nat} {b : Blk} {nw : List Blk} {rd : List Nat} : upOk n ⟨v, [(id, b)], nw, rd⟩ = decide (id < n) := by simp [upOk]
/-! ### Operations at a type whose make is known -/
def ldB (b : Option Blk) (ok : Bool) (p : List Step) (id : Nat) : Res := match b with
  | some blk => if blk.alive && ok then okP ⟨blk.v.path p, [], [], [id]⟩ else none
  | none => none
theorem ldB_box {sh : Shape} {v : V} {p : List Step} {id : Nat} : ldB (some ⟨.box, sh, v⟩) true p id = okP ⟨v.path p, [], [], [id]⟩ := rfl
theorem ldB_row {e : TypeId} {sh : Shape} {v : V} {p : List Step} {id : Nat} : ldB (some ⟨.row e, sh, v⟩) true p id = okP ⟨v.path p, [], [], [id]⟩ := rfl
def ldS (s : Shape) (x : V) (m : List Blk) : Res := match x with
    | .ptr id p s' => ldB m[id]? (s'.beq s) p id
    | .ref u s' c => if s'.beq s then okP (pureE c) else none
    | _ => none
theorem ldS_ptr {s s' : Shape} {m : List Blk} {id : Nat} {p : List Step} : ldS s (.ptr id p s') m = ldB m[id]? (s'.beq s) p id := rfl
theorem ldS_ref {s s' : Shape} {m : List Blk} {u : Bool} {c : V} : ldS s (.ref u s' c) m = if s'.beq s then okP (pureE c) else none := rfl
theorem ld_at {t : TypeId} {s : Shape} (h : tshape P t = some s) (hu : (P.underlying t).isSome = true) (x : V) (m : List Blk) : aLoad P t x m = ldS s x m := by
  obtain ⟨d, hd⟩ := Option.isSome_iff_exists.1 hu
  unfold aLoad ldS ldB
  rw [h, hd]
  cases x <;> first
    | rfl
    | (rename_i id p s'; cases m[id]? <;> rfl)
def stB (b : Option Blk) (ok : Bool) (p : List Step) (id : Nat) (x : V) : Res := match b with
  | some blk => if blk.alive && ok then okP ⟨.tup .nl, [(id, ⟨blk.k, blk.sh, V.set p x blk.v⟩)], [], []⟩ else none
  | none => none
theorem stB_box {sh : Shape} {v x : V} {p : List Step} {id : Nat} : stB (some ⟨.box, sh, v⟩) true p id x = okP ⟨.tup .nl, [(id, ⟨.box, sh, V.set p x v⟩)], [], []⟩ := rfl
theorem stB_row {e : TypeId} {sh : Shape} {v x : V} {p : List Step} {id : Nat} : stB (some ⟨.row e, sh, v⟩) true p id x = okP ⟨.tup .nl, [(id, ⟨.row e, sh, V.set p x v⟩)], [], []⟩ := rfl
def stS (s : Shape) (a x : V) (m : List Blk) : Res := match a with
    | .ptr id p s' => stB m[id]? (s'.beq s && x.fits s && x.known) p id x
    | _ => none
theorem stS_ptr {s s' : Shape} {m : List Blk} {id : Nat} {p : List Step} {x : V} : stS s (.ptr id p s') x m = stB m[id]? (s'.beq s && x.fits s && x.known) p id x := rfl
theorem st_at {t : TypeId} {s : Shape} (h : tshape P t = some s) (a x : V) (m : List Blk) : aStore P t a x m = stS s a x m := by
  unfold aStore stS stB
  rw [h]
  cases a <;> first
    | rfl
    | (simp only [Bool.and_assoc]; rename_i id p s'; cases m[id]? <;> rfl)
def bxS (s : Shape) (x : V) (n : Nat) (ok : Bool) : Res := if ok then okP ⟨.ptr n [] s, [], [⟨.box, s, x⟩], []⟩ else none
theorem bxS_ok {s : Shape} {x : V} {n : Nat} : bxS s x n true = okP ⟨.ptr n [] s, [], [⟨.box, s, x⟩], []⟩ := rfl
theorem bx_at {t : TypeId} {s : Shape} (h : tshape P t = some s) (x : V) (n : Nat) : aBox P t x n = bxS s x n (x.fits s && x.known) := by
  unfold aBox bxS
  rw [h]
theorem al_at {t : TypeId} {s : Shape} {z : V} (h : zero? P t = some (s, z)) (n : Nat) : aAlloc P t n = okP ⟨.ptr n [] s, [], [⟨.box, s, z⟩], []⟩ := by
  unfold aAlloc
  rw [h]
def fdO (d : Nat) (k : Nat) (o : Option (Nat × Shape)) (f : Shape → V) : Res := match o with
  | some (d', s') => if d' = d then okP (pureE (f s')) else none
  | none => none
theorem fdO_some {d k : Nat} {s : Shape} {f : Shape → V} : fdO d k (some (d, s)) f = okP (pureE (f s)) := by simp [fdO]
def fdS (d : Nat) (k : Nat) (x : V) : Res := match x with
        | .ptr id p s => fdO d k (s.fld k) fun s' => .ptr id (p ++ [.fld k]) s'
        | .ref u s c => fdO d k (s.fld k) fun s' => .ref u s' (c.fld k)
        | _ => none
theorem fdS_ptr {d k id : Nat} {p : List Step} {s : Shape} : fdS d k (.ptr id p s) = fdO d k (s.fld k) fun s' => .ptr id (p ++ [.fld k]) s' := rfl
theorem fdS_ref {d k : Nat} {u : Bool} {c : V} {s : Shape} : fdS d k (.ref u s c) = fdO d k (s.fld k) fun s' => .ref u s' (c.fld k) := rfl
/-- The place of a field. -/
def fdAt (P : Program) (t : TypeId) (k : Nat) : Option Nat := match P.underlying t with
  | some (.struct fs) => match fs[k]? with
    | some fd => match P.info? fd.type with
      | some i => if i.size = 0 then none else some fd.offset
      | none => none
    | none => none
  | _ => none
theorem fd_at {t : TypeId} {k d : Nat} (h : fdAt P t k = some d) (x : V) : aField P t x k = fdS d k x := by
  unfold fdAt at h
  unfold aField fdS fdO
  split at h
  · rename_i fs hu
    split at h
    · rename_i fd hf
      split at h
      · rename_i i hi
        split at h
        · cases h
        · rename_i hz
          simp only [Option.some.injEq] at h
          subst h
          simp only [hu, hf, hi, hz, if_false]
          cases x <;> rfl
      · cases h
    · cases h
  · cases h
def arith : BinOp → Bool
  | .shl | .shr | .quo | .rem => false
  | _ => true
theorem bin_int {op : BinOp} {t : TypeId} {k : IntKind} {a b : Int} (h : arith op = true) : aBin P op t (.int k a) (.int k b) = okP (pureE (bin op k a b)) := by
  unfold aBin
  cases op <;> simp [arith] at h <;> simp
theorem bin_add {t : TypeId} {k : IntKind} {a b : Int} : aBin P .add t (.int k a) (.int k b) = okP (pureE (.int k (k.wrap (a + b)))) := bin_int rfl
theorem bin_sub {t : TypeId} {k : IntKind} {a b : Int} : aBin P .sub t (.int k a) (.int k b) = okP (pureE (.int k (k.wrap (a - b)))) := bin_int rfl
theorem bin_mul {t : TypeId} {k : IntKind} {a b : Int} : aBin P .mul t (.int k a) (.int k b) = okP (pureE (.int k (k.wrap (a * b)))) := bin_int rfl
theorem bin_and {t : TypeId} {k : IntKind} {a b : Int} : aBin P .and t (.int k a) (.int k b) = okP (pureE (bin .and k a b)) := bin_int rfl
theorem bin_or {t : TypeId} {k : IntKind} {a b : Int} : aBin P .or t (.int k a) (.int k b) = okP (pureE (bin .or k a b)) := bin_int rfl
theorem bin_xor {t : TypeId} {k : IntKind} {a b : Int} : aBin P .xor t (.int k a) (.int k b) = okP (pureE (bin .xor k a b)) := bin_int rfl
theorem bin_andNot {t : TypeId} {k : IntKind} {a b : Int} : aBin P .andNot t (.int k a) (.int k b) = okP (pureE (bin .andNot k a b)) := bin_int rfl
theorem bin_eql {t : TypeId} {k : IntKind} {a b : Int} : aBin P .eql t (.int k a) (.int k b) = okP (pureE (.bool (a == b))) := bin_int rfl
theorem bin_neq {t : TypeId} {k : IntKind} {a b : Int} : aBin P .neq t (.int k a) (.int k b) = okP (pureE (.bool (a != b))) := bin_int rfl
theorem bin_lss {t : TypeId} {k : IntKind} {a b : Int} : aBin P .lss t (.int k a) (.int k b) = okP (pureE (.bool (decide (a < b)))) := bin_int rfl
theorem bin_leq {t : TypeId} {k : IntKind} {a b : Int} : aBin P .leq t (.int k a) (.int k b) = okP (pureE (.bool (decide (a ≤ b)))) := bin_int rfl
theorem bin_gtr {t : TypeId} {k : IntKind} {a b : Int} : aBin P .gtr t (.int k a) (.int k b) = okP (pureE (.bool (decide (b < a)))) := bin_int rfl
theorem bin_geq {t : TypeId} {k : IntKind} {a b : Int} : aBin P .geq t (.int k a) (.int k b) = okP (pureE (.bool (decide (b ≤ a)))) := bin_int rfl
theorem bin_shl {t : TypeId} {k k' : IntKind} {a b : Int} : aBin P .shl t (.int k a) (.int k' b) = some (0 ≤ b, pureE (shift .shl k a b)) := rfl
theorem bin_shr {t : TypeId} {k k' : IntKind} {a b : Int} : aBin P .shr t (.int k a) (.int k' b) = some (0 ≤ b, pureE (shift .shr k a b)) := rfl
theorem bin_quo {t : TypeId} {k : IntKind} {a b : Int} : aBin P .quo t (.int k a) (.int k b) = some (b ≠ 0, pureE (bin .quo k a b)) := by simp [aBin]
theorem bin_rem {t : TypeId} {k : IntKind} {a b : Int} : aBin P .rem t (.int k a) (.int k b) = some (b ≠ 0, pureE (bin .rem k a b)) := by simp [aBin]

theorem dOk_some {n d : Nat} : dOk n (some d) = decide (d < n) := rfl
theorem dOk_none {n : Nat} : dOk n none = true := rfl
theorem lit_tmp {S : St} {t : Tmp} {b : Bool} : S.lit (.tmp t) b = S.ap (some t) (pureE (.bool b)) := rfl
theorem lit_const {S : St} {v : Value} {b : Bool} : S.lit (.const v) b = S := rfl
end
end Go.Ab
