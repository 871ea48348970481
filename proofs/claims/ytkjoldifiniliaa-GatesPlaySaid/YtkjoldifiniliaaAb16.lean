/- Contracts, for the simplifier. No condition. -/
import Derived.Test.YtkjoldifiniliaaAb15
set_option linter.unusedVariables false
set_option linter.unusedSimpArgs false
namespace Go.Ab
open Go.RowKit

/-! ### Ends -/
def rtC (r : Option (Prop × V × List Nat)) (want : V) (fresh : Bool) : Prop := match r with
  | some (p, v', _) => p ∧ v'.le want ∧ (fresh = true → v'.own)
  | none => False
def rtB (r : Option V) (m : List Blk) (want : V) (fresh : Bool) : Prop := match r with
  | some v => rtC (res m v) want fresh
  | none => False
def endQ (P : Program) (rs : List ResultVar) (want : V) (fresh : Bool) (e : Exit) (S : St) : Prop := match e with
  | .ret => rtB (resAll P S rs) S.mem want fresh
  | .normal => rtB (resAll P S rs) S.mem want fresh
  | _ => False
theorem endQ_ret {P : Program} {rs : List ResultVar} {want : V} {fresh : Bool} {tm : List V} {mem : List Blk} : endQ P rs want fresh .ret ⟨tm, mem⟩ = rtB (resAll P ⟨tm, mem⟩ rs) mem want fresh := rfl
theorem endQ_normal {P : Program} {rs : List ResultVar} {want : V} {fresh : Bool} {tm : List V} {mem : List Blk} : endQ P rs want fresh .normal ⟨tm, mem⟩ = rtB (resAll P ⟨tm, mem⟩ rs) mem want fresh := rfl
theorem rtB_some {v want : V} {m : List Blk} {fresh : Bool} : rtB (some v) m want fresh = rtC (res m v) want fresh := rfl
theorem rtC_some {p : Prop} {v want : V} {rd : List Nat} {fresh : Bool} : rtC (some (p, v, rd)) want fresh = (p ∧ v.le want ∧ (fresh = true → v.own)) := rfl

def start (N : Nat) (args : List V) : St := ⟨args.map borrow ++ List.replicate (N - args.length) .unk, []⟩

theorem csound_of {P : Program} {ct : FuncId → Option CSpec} (hct : CT P ct) (hm : P.follows .mixedOrders = true) {f : FuncId} {fn : Func} {c : Code} {s : CSpec} {N : Nat} {rs : List ResultVar} (hf : P.funcs[f]? = some fn) (hb : fn.body = some c) (hname : (fn.name == "runtime.NumGoroutine") = false)
    (hO : codeOk N c = true) (hN : fn.ntmps = N) (hrs : fn.results.toList = rs)
    (h : ∀ args, s.pre args → vc P (fun _ => .unk) ct c (endQ P rs (s.res args) s.fresh) (start N args)) : CSound P f s := by
  refine csound_of_vc hct hm hf hb hname (by rw [hN]; exact hO) fun args hpre => ?_
  have h1 := h args hpre
  subst hN hrs
  have h2 : (endQ P fn.results.toList (s.res args) s.fresh) = (fun e S => match e with | .ret => retOk P fn (s.res args) s.fresh S | .normal => retOk P fn (s.res args) s.fresh S | _ => False) := by
    funext e S
    cases e <;> first
      | rfl
      | (simp only [endQ, rtB, rtC, retOk])
  rw [h2] at h1
  exact h1

/-! ### Contracts by number -/
def ctL (l : List (FuncId × CSpec)) (f : FuncId) : Option CSpec := match l with
  | [] => none
  | (g, c) :: l => if f = g then some c else ctL l f
theorem CT.nil (P : Program) : CT P (ctL []) := fun f c h => by cases h
theorem CT.cons {P : Program} {f : FuncId} {c : CSpec} {l : List (FuncId × CSpec)} (h : CSound P f c) (hl : CT P (ctL l)) : CT P (ctL ((f, c) :: l)) := by
  intro g d hd
  simp only [ctL] at hd
  split at hd
  · rename_i e; subst e; cases hd; exact h
  · exact hl g d hd
theorem ctL_cons {f g : FuncId} {c : CSpec} {l : List (FuncId × CSpec)} : ctL ((g, c) :: l) f = if f = g then some c else ctL l f := rfl

/-! ### Contents -/
section
variable {m : List Blk}
theorem res_int {k : IntKind} {n : Int} : res m (.int k n) = some (True, .int k n, []) := rfl
theorem res_bool {b : Bool} : res m (.bool b) = some (True, .bool b, []) := rfl
theorem res_str {s : ByteArray} : res m (.str s) = some (True, .str s, []) := rfl
theorem res_nl : res m .nl = some (True, .nl, []) := rfl
theorem res_nilp : res m .nilp = some (True, .nilp, []) := rfl
theorem res_nils : res m .nils = some (True, .nils, []) := rfl
theorem res_nilf : res m .nilf = some (True, .nilf, []) := rfl
theorem res_ref {u : Bool} {s : Shape} {c : V} : res m (.ref u s c) = some (True, .ref u s c, []) := rfl
theorem res_ro {u clip : Bool} {s : Shape} {n : Nat} {f : Nat → V} : res m (.ro u clip s n f) = some (True, .ro u clip s n f, []) := rfl
def resIf (b : Bool) (v : V) : Option (Prop × V × List Nat) := if b then some (True, v, []) else none
theorem resIf_true {v : V} : resIf true v = some (True, v, []) := rfl
theorem res_fn {f : FuncId} {c : V} : res m (.fn f c) = resIf (noId c) (.fn f c) := rfl
theorem res_arr {n : Nat} {f : Nat → V} : res m (.arr n f) = resIf (noId (.arr n f)) (.arr n f) := rfl
def resC (a b : Option (Prop × V × List Nat)) : Option (Prop × V × List Nat) := match a, b with
    | some (p, h', r), some (q, t', r') => some (p ∧ q, .cons h' t', r ++ r')
    | _, _ => none
theorem res_cons {h t : V} : res m (.cons h t) = resC (res m h) (res m t) := rfl
theorem resC_some {p q : Prop} {h t : V} {r r' : List Nat} : resC (some (p, h, r)) (some (q, t, r')) = some (p ∧ q, .cons h t, r ++ r') := rfl
def resT (a : Option (Prop × V × List Nat)) : Option (Prop × V × List Nat) := match a with
    | some (p, l', r) => some (p, .tup l', r)
    | none => none
theorem res_tup {l : V} : res m (.tup l) = resT (res m l) := rfl
theorem resT_some {p : Prop} {h : V} {r : List Nat} : resT (some (p, h, r)) = some (p, .tup h, r) := rfl
def resRow (b : Option Blk) (id : Nat) (e : Shape) (n : Nat) : Option (Prop × V × List Nat) := match b with
    | some blk => if blk.alive then match blk.v with
      | .arr _ f => some (∀ i, i < n → noId (f i) = true, .ro false false e n f, [id])
      | _ => none
      else none
    | none => none
theorem res_row {id n : Nat} {e : Shape} : res m (.row id e n) = resRow m[id]? id e n := rfl
theorem resRow_some {id n k : Nat} {e sh : Shape} {t : TypeId} {f : Nat → V} : resRow (some ⟨.row t, sh, .arr k f⟩) id e n = some (∀ i, i < n → noId (f i) = true, .ro false false e n f, [id]) := rfl
def resSl (v : V) (alive : Bool) (id : Nat) (e : Shape) (off len : Nat) : Option (Prop × V × List Nat) := if alive then match v with
      | .arr _ f => some (∀ i, i < len → noId (f (off + i)) = true, .ro false false e len (fun i => f (off + i)), [id])
      | _ => none
      else none
def resSlB (b : Option Blk) (p : List Step) (id : Nat) (e : Shape) (off len : Nat) : Option (Prop × V × List Nat) := match b with
    | some blk => resSl (blk.v.path p) blk.alive id e off len
    | none => none
theorem res_sl {id off len : Nat} {p : List Step} {e : Shape} {cap : Option Nat} : res m (.sl id p e off len cap) = resSlB m[id]? p id e off len := rfl
theorem resSlB_box {sh e : Shape} {v : V} {p : List Step} {id off len : Nat} : resSlB (some ⟨.box, sh, v⟩) p id e off len = resSl (v.path p) true id e off len := rfl
theorem resSlB_row {t : TypeId} {sh e : Shape} {v : V} {p : List Step} {id off len : Nat} : resSlB (some ⟨.row t, sh, v⟩) p id e off len = resSl (v.path p) true id e off len := rfl
theorem resSl_arr {k id off len : Nat} {e : Shape} {f : Nat → V} : resSl (.arr k f) true id e off len = some (∀ i, i < len → noId (f (off + i)) = true, .ro false false e len (fun i => f (off + i)), [id]) := rfl
def resPtr (v : V) (ok : Bool) (id : Nat) (s : Shape) : Option (Prop × V × List Nat) := if ok then some (True, .ref false s v, [id]) else none
theorem resPtr_ok {v : V} {id : Nat} {s : Shape} : resPtr v true id s = some (True, .ref false s v, [id]) := rfl
def resPtrB (b : Option Blk) (p : List Step) (id : Nat) (s : Shape) : Option (Prop × V × List Nat) := match b with
    | some blk => resPtr (blk.v.path p) (blk.alive && noId (blk.v.path p)) id s
    | none => none
theorem res_ptr {id : Nat} {p : List Step} {s : Shape} : res m (.ptr id p s) = resPtrB m[id]? p id s := rfl
theorem resPtrB_box {sh s : Shape} {v : V} {p : List Step} {id : Nat} : resPtrB (some ⟨.box, sh, v⟩) p id s = resPtr (v.path p) (noId (v.path p)) id s := rfl
theorem resPtrB_row {t : TypeId} {sh s : Shape} {v : V} {p : List Step} {id : Nat} : resPtrB (some ⟨.row t, sh, v⟩) p id s = resPtr (v.path p) (noId (v.path p)) id s := rfl
end

/-! ### Results -/
section
variable {P : Program}
theorem resAll_one {S : St} {r : ResultVar} : resAll P S [r] = resV P S r := rfl
theorem resAll_none {S : St} : resAll P S [] = some (.tup .nl) := rfl
def tupO (v : Option V) : Option V := match v with | some v => some (.tup v) | none => none
theorem tupO_some {v : V} : tupO (some v) = some (.tup v) := rfl
theorem resAll_more {S : St} {r r' : ResultVar} {l : List ResultVar} : resAll P S (r :: r' :: l) = tupO (resL P S (r :: r' :: l)) := by
  show (resL P S (r :: r' :: l)).map V.tup = _
  unfold tupO
  cases resL P S (r :: r' :: l) <;> rfl
def consO (a b : Option V) : Option V := match a, b with
    | some v, some w => some (.cons v w)
    | _, _ => none
theorem resL_nil {S : St} : resL P S [] = some .nl := rfl
theorem resL_cons {S : St} {r : ResultVar} {l : List ResultVar} : resL P S (r :: l) = consO (resV P S r) (resL P S l) := rfl
theorem consO_some {v w : V} : consO (some v) (some w) = some (.cons v w) := rfl
theorem resV_tmp {S : St} {t : Nat} : resV P S (.tmp t) = some (S.t t) := rfl
def rcS (s : Shape) (a : V) (m : List Blk) : Option V := match a with
      | .ptr id p s' => match m[id]? with
        | some blk => if blk.alive && s'.beq s then some (blk.v.path p) else none
        | none => none
      | _ => none
def rcB (b : Option Blk) (p : List Step) (ok : Bool) : Option V := match b with
        | some blk => if blk.alive && ok then some (blk.v.path p) else none
        | none => none
theorem rcS_ptr {s s' : Shape} {id : Nat} {p : List Step} {m : List Blk} : rcS s (.ptr id p s') m = rcB m[id]? p (s'.beq s) := rfl
theorem rcB_box {sh : Shape} {v : V} {p : List Step} : rcB (some ⟨.box, sh, v⟩) p true = some (v.path p) := rfl
theorem resV_cell {t : TypeId} {s : Shape} (h : tshape P t = some s) (hu : (P.underlying t).isSome = true) (S : St) (a : Nat) : resV P S (.cell a t) = rcS s (S.t a) S.mem := by
  obtain ⟨d, hd⟩ := Option.isSome_iff_exists.1 hu
  simp only [resV, h, hd, rcS]
  cases S.t a <;> first
    | rfl
    | (rename_i id p s'; simp only; cases S.mem[id]? <;> rfl)

/-! ### Calls -/
def callR (c : CSpec) (r : Option (Prop × V × List Nat)) : Res := match r with
  | some (p, l, rd) => if rd.isEmpty || c.fresh || noRef (c.res (unL l)) then
      some (p ∧ c.pre (unL l), ⟨if c.fresh || noRef (c.res (unL l)) then c.res (unL l) else borrow (c.res (unL l)), [], [], rd⟩) else none
  | none => none
def callC (c : Option CSpec) (m : List Blk) (args : V) : Res := match c with
  | some c => callR c (res m args)
  | none => none
def callF (ct : FuncId → Option CSpec) (f : V) (m : List Blk) (args : V → V) : Res := match f with
  | .fn f caps => callC (ct f) m (args caps)
  | _ => none
theorem x_call {G : Nat → V} {ct : FuncId → Option CSpec} {fo : Operand} {l : List Operand} {ts : Array TypeId} {S : St} :
    aexec P G ct (.call ⟨.value fo, ⟨l⟩, ts⟩) S = callF ct (opv G S.t fo) S.mem (appL (l.map (opv G S.t))) := by
  unfold aexec callF callC callR aCall
  simp only
  cases opv G S.t fo <;> rfl
theorem callF_fn {ct : FuncId → Option CSpec} {f : FuncId} {caps : V} {m : List Blk} {args : V → V} : callF ct (.fn f caps) m args = callC (ct f) m (args caps) := rfl
theorem callC_some {c : CSpec} {m : List Blk} {args : V} : callC (some c) m args = callR c (res m args) := rfl
/-- With nothing of the caller's own in it. -/
theorem callR_nil {c : CSpec} {p : Prop} {l : V} : callR c (some (p, l, [])) = some (p ∧ c.pre (unL l), ⟨if c.fresh || noRef (c.res (unL l)) then c.res (unL l) else borrow (c.res (unL l)), [], [], []⟩) := by
  simp [callR]
theorem callR_cons {c : CSpec} {p : Prop} {l : V} {i : Nat} {rd : List Nat} : callR c (some (p, l, i :: rd)) = if c.fresh || noRef (c.res (unL l)) then some (p ∧ c.pre (unL l), ⟨c.res (unL l), [], [], i :: rd⟩) else none := by
  simp only [callR, List.isEmpty_cons, Bool.false_or]
  split
  · rfl
  · rfl
end
end Go.Ab
