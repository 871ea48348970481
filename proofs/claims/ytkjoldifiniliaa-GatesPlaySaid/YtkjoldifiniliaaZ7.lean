/- The run that the kernel carries out: regions, code, calls. No condition. -/
import Derived.Test.YtkjoldifiniliaaZ6b
set_option linter.unusedVariables false
set_option linter.unusedSimpArgs false
set_option linter.constructorNameAsVariable false
namespace Go.Ab
open Go.RowKit
noncomputable section

/-! ### One operation -/
abbrev CL := X → List X → Tr X → Pth → KT → Prop
def one (l : List Operand) (f : Operand → Prop) : Prop := @List.rec Operand (fun _ => Prop) False (fun x r _ => @List.rec Operand (fun _ => Prop) (f x) (fun _ _ _ => False) r) l
theorem one_inv {l : List Operand} {f : Operand → Prop} (h : one l f) : ∃ x, l = [x] ∧ f x := by
  cases l with
  | nil => exact False.elim h
  | cons x r => cases r with
    | nil => exact ⟨x, rfl, h⟩
    | cons => exact False.elim h
def oneN (l : List TypeId) (f : TypeId → Prop) : Prop := @List.rec Nat (fun _ => Prop) False (fun x r _ => @List.rec Nat (fun _ => Prop) (f x) (fun _ _ _ => False) r) l
theorem oneN_inv {l : List TypeId} {f : TypeId → Prop} (h : oneN l f) : ∃ x, l = [x] ∧ f x := by
  cases l with
  | nil => exact False.elim h
  | cons x r => cases r with
    | nil => exact ⟨x, rfl, h⟩
    | cons => exact False.elim h
def isLen (b : Builtin) : Bool := match b with | .len => true | _ => false
def z_builtin (T : Tr TI) (tm : Tr X) (b : Builtin) (args : Array Operand) (ts : Array TypeId) (zm : Tr X) (nx : Pth) (K : KT) : Prop :=
  ifP (isLen b) (one args.toList fun x => oneN ts.toList fun t => z_len T tm t x zm nx K)
def z_call (cl : CL) (T : Tr TI) (tm : Tr X) (c : Call) (zm : Tr X) (nx : Pth) (K : KT) : Prop :=
  @Call.rec (fun _ => Prop) (fun ce args ts => @Callee.rec (fun _ => Prop) (fun f => fX (evO tm f) fun f => fevL tm args.toList fun l => cl f l zm nx K) (fun _ _ => False) (fun b => z_builtin T tm b args ts zm nx K) ce) c

def zop (cl : CL) (T : Tr TI) (tm : Tr X) (o : Op) (zm : Tr X) (nx : Pth) (K : KT) : Prop :=
  @Op.rec (fun _ => Prop)
    (fun x => z_move tm x zm nx K) (fun x => z_move tm x zm nx K) (fun c a b => z_pick tm c a b zm nx K) (fun t => z_alloc T t zm nx K) (fun t x => z_box T tm t x zm nx K)
    (fun t ps => z_build T tm t ps zm nx K) (fun t n ps => z_buildSlice T tm t n ps zm nx K) (fun _ _ _ _ => False)
    (fun t a => z_load T tm t a zm nx K) (fun t a x => z_store T tm t a x zm nx K) (fun _ => False) (fun _ => False) (fun x => z_nil tm x zm nx K)
    (fun op t x y _ => z_bin2 T tm op t x y zm nx K) (fun op _ x => z_un tm op x zm nx K) (fun s d x => z_conv T tm s d x zm nx K) (fun _ _ => False) (fun _ _ => False)
    (fun f a b => z_makeFunc tm f a b zm nx K) (fun _ _ => False) (fun _ _ => False) (fun t l c => z_makeSlice T tm t l c zm nx K) (fun _ _ _ _ _ => False)
    (fun t x i => z_field T tm t x i zm nx K) (fun _ _ _ => False) (fun t x i => z_index T tm t x i zm nx K) (fun _ _ _ => False) (fun _ _ _ _ => False) (fun _ _ _ _ => False) (fun _ _ _ => False) (fun _ _ _ _ => False)
    (fun _ _ => False) (fun _ _ => False) (fun _ => False) (fun _ _ _ _ => False) (fun x k => z_extract tm x k zm nx K) (fun c => z_call cl T tm c zm nx K)
    (fun _ => False) (fun _ => False) (fun _ => False) (fun _ _ => False) (fun _ _ _ => False) (fun _ _ => False) o

section
variable {P : Program} {B : Nat} {o : Oper} {tm zm : Tr X} {nx : Pth} {T : Tr TI} {K : KT}

theorem z_len_call {b : Builtin} {args : Array Operand} {ts : Array TypeId} (hT : TTok P T) (ho : o.op = .call ⟨.builtin b, args, ts⟩) (hwm : WFM P zm) (h : z_builtin T tm b args ts zm nx K) :
    ∃ v zm' nx' up rd e, ZStep P B o tm zm zm' nx nx' v up rd e ∧ K v zm' nx' up rd := by
  obtain ⟨h1, h2⟩ := ifP_inv h
  obtain ⟨x, hx, h3⟩ := one_inv h2
  obtain ⟨t, ht, h4⟩ := oneN_inv h3
  have hb : b = .len := by cases b <;> first | rfl | cases h1
  have ha : args = #[x] := by obtain ⟨l⟩ := args; simpa using hx
  have hts : ts = #[t] := by obtain ⟨l⟩ := ts; simpa using ht
  subst hb ha hts
  exact z_len_inv hT ho hwm h4

/-- A simple operation, or a call. -/
theorem zop_inv {cl : CL} (hT : TTok P T) (hwm : WFM P zm) (hws : WFS P tm) (h : zop cl T tm o.op zm nx K) :
    (∃ v zm' nx' up rd e, ZStep P B o tm zm zm' nx nx' v up rd e ∧ K v zm' nx' up rd) ∨
    (∃ f args ts, o.op = .call ⟨.value f, args, ts⟩ ∧ (∀ y ∈ evL tm args.toList, WF P y) ∧ cl (evO tm f) (evL tm args.toList) zm nx K) := by
  cases ho : o.op with
  | move x => rw [ho] at h; exact .inl (z_move_inv (.inl ho) hwm hws h)
  | assign x => rw [ho] at h; exact .inl (z_move_inv (.inr ho) hwm hws h)
  | pick c a b => rw [ho] at h; exact .inl (z_pick_inv ho hwm hws h)
  | alloc t => rw [ho] at h; exact .inl (z_alloc_inv hT ho hwm h)
  | box t x => rw [ho] at h; exact .inl (z_box_inv hT ho hwm hws h)
  | build t ps => rw [ho] at h; exact .inl (z_build_inv hT ho hwm hws h)
  | buildSlice t n ps => rw [ho] at h; exact .inl (z_buildSlice_inv hT ho hwm hws h)
  | load t a => rw [ho] at h; exact .inl (z_load_inv hT ho hwm hws h)
  | store t a x => rw [ho] at h; exact .inl (z_store_inv hT ho hwm hws h)
  | nilCheck x => rw [ho] at h; exact .inl (z_nil_inv ho hwm hws h)
  | binOp op t x y t1 => rw [ho] at h; exact .inl (z_bin2_inv hT ho hwm hws h)
  | unOp op t x => rw [ho] at h; exact .inl (z_un_inv ho hwm h)
  | convert s d x => rw [ho] at h; exact .inl (z_conv_inv hT ho hwm h)
  | makeFunc f a b => rw [ho] at h; exact .inl (z_makeFunc_inv ho hwm hws h)
  | makeSlice t l c => rw [ho] at h; exact .inl (z_makeSlice_inv hT ho hwm h)
  | fieldAddr t x i => rw [ho] at h; exact .inl (z_field_inv hT ho hwm h)
  | indexAddr t x i => rw [ho] at h; exact .inl (z_index_inv hT ho hwm h)
  | extract x k => rw [ho] at h; exact .inl (z_extract_inv ho hwm hws h)
  | call c =>
    rw [ho] at h
    obtain ⟨ce, args, ts⟩ := c
    cases ce with
    | value f =>
      have h1 : fX (evO tm f) (fun f => fevL tm args.toList fun l => cl f l zm nx K) := h
      rw [fX_eq] at h1
      obtain ⟨h2, h3⟩ := fevL_inv hws h1
      exact .inr ⟨f, args, ts, rfl, h2, h3⟩
    | invoke r m => exact False.elim h
    | builtin b => exact .inl (z_len_call hT ho hwm h)
  | _ => rw [ho] at h; exact False.elim h
end

/-! ### States -/
/-- 'H': the names from there on are others'. -/
structure ZR (P : Program) (B H : Nat) (C : Ctx) (M : Mem) (zm : Tr X) (nx : Pth) : Prop where
  sr : SR B C M
  sub : Sub (zmem P zm) M
  al : ∀ id, num nx ≤ id → id < H → ¬ C.al id
  wfm : WFM P zm
/-- From one to the next. -/
structure ZC (P : Program) (B H : Nat) (C : Ctx) (M : Mem) (zm : Tr X) (nx : Pth) (C' : Ctx) (M' : Mem) (zm' : Tr X) (nx' : Pth) : Prop where
  kp : Kp B C C'
  al : ∀ id, C'.al id → C.al id ∨ (num nx ≤ id ∧ id < num nx')
  fr : ∀ id, (id < num nx ∨ H ≤ id) → zmem P zm id = none → M' id = M id ∧ zmem P zm' id = none
theorem ZC.refl {P : Program} {B H : Nat} (C : Ctx) (M : Mem) (zm : Tr X) (nx : Pth) : ZC P B H C M zm nx C M zm nx := ⟨Kp.refl B C, fun _ h => .inl h, fun _ _ h => ⟨rfl, h⟩⟩
theorem ZC.trans {P : Program} {B H : Nat} {C C' C'' : Ctx} {M M' M'' : Mem} {zm zm' zm'' : Tr X} {nx nx' nx'' : Pth} (h : ZC P B H C M zm nx C' M' zm' nx') (k : ZC P B H C' M' zm' nx' C'' M'' zm'' nx'') (h1 : num nx ≤ num nx') (h2 : num nx' ≤ num nx'') : ZC P B H C M zm nx C'' M'' zm'' nx'' :=
  ⟨h.kp.trans k.kp, fun id hid => by
    rcases k.al id hid with h3 | h3
    · rcases h.al id h3 with h4 | h4
      · exact .inl h4
      · exact .inr ⟨h4.1, by omega⟩
    · exact .inr ⟨by omega, h3.2⟩, fun id hid hn => by
    obtain ⟨h3, h4⟩ := h.fr id hid hn
    obtain ⟨h5, h6⟩ := k.fr id (by omega) h4
    exact ⟨h5.trans h3, h6⟩⟩

/-- What an operation hands on, wherever it is carried out. -/
def ODoes (P : Program) (B : Nat) (o : Oper) (tm zm : Tr X) (nx : Pth) (v : X) (zm' : Tr X) (nx' : Pth) : Prop :=
  ∀ (H : Nat) (C : Ctx) (M : Mem) (ρc : Operand → Value), num nx' ≤ H → ZR P B H C M zm nx → (∀ x ∈ o.op.operands.toList, R C (rho P tm x) (.val (ρc x))) →
    Does P (execOp ρc o) C.w fun val w' => ∃ C' M', C'.w = w' ∧ R C' (v.toV P) (.val val) ∧ ZR P B H C' M' zm' nx' ∧ ZC P B H C M zm nx C' M' zm' nx'

theorem ZStep.does {P : Program} {B : Nat} {o : Oper} {tm zm zm' : Tr X} {nx nx' : Pth} {v : X} {up rd : List Pth} {e : Eff} (h : ZStep P B o tm zm zm' nx nx' v up rd e) : ODoes P B o tm zm nx v zm' nx' := by
  intro H C M ρc hH hr ho
  have hnx := h.nxt
  refine Does.mono ?_ (h.sem M hr.sub C M ρc hr.sr (fun _ _ => rfl) (fun _ _ => rfl) (fun i hi => hr.al _ (by omega) (by omega)) ho)
  rintro val w' ⟨C', hw, hR, hK, hS, hal⟩
  rw [h.val] at hR
  have hal' : ∀ id, C'.al id → C.al id ∨ (num nx ≤ id ∧ id < num nx') := fun id hid => by
    rcases hal id hid with h1 | h1
    · exact .inl h1
    · exact .inr ⟨h1.1, by omega⟩
  refine ⟨C', _, hw, hR, ⟨hS, h.sub M hr.sub, fun id h1 h2 h3 => ?_, h.wfm⟩, ⟨hK, hal', fun id hid hn => ⟨?_, h.kn id (by omega) hn⟩⟩⟩
  · rcases hal' id h3 with h4 | h4
    · exact hr.al id (by omega) h2 h4
    · omega
  · have ht : touch e (num nx) id = none := by
      unfold touch
      rw [if_neg (by omega)]
      cases hl : e.up.lookup id with
      | none => rfl
      | some b =>
        exfalso
        have : ∀ (l : List (Nat × Blk)), l.lookup id = some b → ∃ x ∈ l, x.1 = id := by
          intro l
          induction l with
          | nil => intro h; cases h
          | cons x l ih =>
            intro h
            simp only [List.lookup] at h
            cases hx : id == x.1 with
            | true => exact ⟨x, by simp, (by simpa using hx : id = x.1).symm⟩
            | false =>
              rw [hx] at h
              obtain ⟨y, hy, e⟩ := ih h
              exact ⟨y, by simp [hy], e⟩
        obtain ⟨x, hx, e1⟩ := this _ hl
        obtain ⟨b', hb'⟩ := h.upk x hx
        rw [e1, hn] at hb'; cases hb'
    simp only [put, ht]

/-- Nothing is known of names to come. -/
def KB (P : Program) (zm : Tr X) (nx : Pth) : Prop := ∀ id, num nx ≤ id → zmem P zm id = none
theorem ZStep.kb {P : Program} {B : Nat} {o : Oper} {tm zm zm' : Tr X} {nx nx' : Pth} {v : X} {up rd : List Pth} {e : Eff} (h : ZStep P B o tm zm zm' nx nx' v up rd e) (hk : KB P zm nx) : KB P zm' nx' :=
  fun id hid => h.kn id (.inr hid) (hk id (by have := h.nxt; omega))

/-! ### Code -/
abbrev K3 := Exit → Tr X → Tr X → Pth → Prop
abbrev RUN := Code → Tr X → Tr X → Pth → K3 → Prop
def putD (d : Option Tmp) (v : X) (tm : Tr X) (f : Tr X → Prop) : Prop := @Option.rec Tmp (fun _ => Prop) (f tm) (fun d => setTK v (enc d) tm f) d
theorem putD_eq (d : Option Tmp) (v : X) (tm : Tr X) (f : Tr X → Prop) : putD d v tm f = f (match d with | some d => set v (enc d) tm | none => tm) := by
  cases d with
  | none => rfl
  | some d => exact setTK_eq v (enc d) tm f
def xNil (l : List X) (p : Prop) : Prop := @List.rec X (fun _ => Prop) p (fun _ _ _ => False) l
/-- The same temporaries, some of them worked out. -/
structure Same (P : Program) (tm tm1 : Tr X) : Prop where
  tv : ∀ t, (get .unk (enc t) tm1).toV P = (get .unk (enc t) tm).toV P
  wf : WFS P tm → WFS P tm1
theorem Same.refl (P : Program) (tm : Tr X) : Same P tm tm := ⟨fun _ => rfl, id⟩
theorem Same.set {P : Program} {tm : Tr X} {d : Nat} {b : Bool} (h : (get .unk (enc d) tm).toV P = .bool b) : Same P tm (set (.bool b) (enc d) tm) := by
  refine ⟨fun t => ?_, fun hw q => ?_⟩
  · rw [get_set]; split
    · rename_i he; rw [enc_inj he, h]; rfl
    · rfl
  · rw [get_set]; split
    · exact .one (.lf rfl)
    · exact hw q
/-- What a guard says: carried out, or passed over. -/
def grdX (x : X) (want : Bool) (d : Nat) (tm : Tr X) (y n : Tr X → Prop) : Prop :=
  @X.rec (fun _ => Prop) (fun _ => Unit) (fun _ => Unit) (fun _ _ => False) (fun b => bRec (boolEq b want) (y tm) (n tm)) (fun _ _ => False) (fun b => (b = want → setTK (.bool want) (enc d) tm y) ∧ (b = bRec want false true → setTK (.bool (bRec want false true)) (enc d) tm n)) (fun _ => False) (fun _ _ _ => False) (fun _ _ _ _ _ _ => False) (fun _ _ _ => False) (fun _ _ _ => False) (fun _ _ _ _ _ _ => False) False False False (fun _ _ _ => False) (fun a0 _ => (fun l => xNil l (n tm)) a0) (fun _ _ => False) (fun _ _ _ => False) False () (fun _ _ _ _ => ()) () (fun _ _ _ _ _ _ _ _ => ()) (fun _ _ _ _ _ _ _ _ _ _ => ()) x
theorem grdX_inv {P : Program} {want : Bool} {d : Nat} {tm : Tr X} {y n : Tr X → Prop} (h : grdX (get .unk (enc d) tm) want d tm y n) :
    ((get .unk (enc d) tm).toV P = .bool want ∧ ∃ tm1, Same P tm tm1 ∧ y tm1) ∨ (((get .unk (enc d) tm).toV P = .bool (!want) ∨ (get .unk (enc d) tm).toV P = .tup .nl) ∧ ∃ tm1, Same P tm tm1 ∧ n tm1) := by
  cases hx : get .unk (enc d) tm with
  | bool b =>
    rw [hx] at h
    cases b <;> cases want <;> first | exact .inl ⟨rfl, tm, Same.refl P tm, h⟩ | exact .inr ⟨.inl rfl, tm, Same.refl P tm, h⟩
  | sbool b =>
    rw [hx] at h
    have h1 : (b = want → setTK (.bool want) (enc d) tm y) ∧ (b = bRec want false true → setTK (.bool (bRec want false true)) (enc d) tm n) := h
    rw [setTK_eq, setTK_eq] at h1
    by_cases hb : b = want
    · subst hb; exact .inl ⟨rfl, _, Same.set (by rw [hx]; rfl), h1.1 rfl⟩
    · have hb' : b = !want := by cases b <;> cases want <;> simp_all
      have hn : bRec want false true = !want := by cases want <;> rfl
      rw [hn] at h1
      subst hb'
      exact .inr ⟨.inl rfl, _, Same.set (by rw [hx]; rfl), h1.2 rfl⟩
  | tup l => cases l with
    | nil => rw [hx] at h; exact .inr ⟨.inr rfl, tm, Same.refl P tm, h⟩
    | cons => rw [hx] at h; exact False.elim h
  | _ => rw [hx] at h; exact False.elim h
/-- A fork of the code. -/
def condX (x : X) (t : Nat) (tm : Tr X) (f : Bool → Tr X → Prop) : Prop := @X.rec (fun _ => Prop) (fun _ => Unit) (fun _ => Unit) (fun _ _ => False) (fun b => f b tm) (fun _ _ => False) (fun b => (b = true → setTK (.bool true) (enc t) tm (f true)) ∧ (b = false → setTK (.bool false) (enc t) tm (f false))) (fun _ => False) (fun _ _ _ => False) (fun _ _ _ _ _ _ => False) (fun _ _ _ => False) (fun _ _ _ => False) (fun _ _ _ _ _ _ => False) False False False (fun _ _ _ => False) (fun _ _ => False) (fun _ _ => False) (fun _ _ _ => False) False () (fun _ _ _ _ => ()) () (fun _ _ _ _ _ _ _ _ => ()) (fun _ _ _ _ _ _ _ _ _ _ => ()) x
def condK (tm : Tr X) (c : Operand) (f : Bool → Tr X → Prop) : Prop := @Operand.rec (fun _ => Prop) (fun t => condX (get .unk (enc t) tm) t tm f) (fun v => asBool (ofValX v) fun b => f b tm) (fun _ => False) (fun _ => False) c
theorem condK_inv {P : Program} {tm : Tr X} {c : Operand} {f : Bool → Tr X → Prop} (h : condK tm c f) : ∃ b tm1, rho P tm c = .bool b ∧ Same P tm tm1 ∧ f b tm1 := by
  cases c with
  | tmp t =>
    have h1 : condX (get .unk (enc t) tm) t tm f := h
    cases hx : get .unk (enc t) tm with
    | bool b => rw [hx] at h1; exact ⟨b, tm, by rw [← evO_toV]; show (get .unk (enc t) tm).toV P = _; rw [hx]; rfl, Same.refl P tm, h1⟩
    | sbool b =>
      rw [hx] at h1
      have h2 : (b = true → setTK (.bool true) (enc t) tm (f true)) ∧ (b = false → setTK (.bool false) (enc t) tm (f false)) := h1
      rw [setTK_eq, setTK_eq] at h2
      have hr : rho P tm (.tmp t) = .bool b := by rw [← evO_toV]; show (get .unk (enc t) tm).toV P = _; rw [hx]; rfl
      cases b with
      | true => exact ⟨true, _, hr, Same.set (by rw [hx]; rfl), h2.1 rfl⟩
      | false => exact ⟨false, _, hr, Same.set (by rw [hx]; rfl), h2.2 rfl⟩
    | _ => rw [hx] at h1; exact False.elim h1
  | const v =>
    obtain ⟨b, hb, h1⟩ := asBool_inv (show asBool (ofValX v) (fun b => f b tm) from h)
    exact ⟨b, tm, by rw [← evO_toV]; show (ofValX v).toV P = _; rw [hb]; rfl, Same.refl P tm, h1⟩
  | global g => exact False.elim h
  | func g => exact False.elim h
/-- The destination of the operation that a guard looks at. -/
def dstAt (ops : List Oper) (j : Nat) : Option Tmp := (ops[j]?).bind (·.dst)
def grdK (ops : List Oper) (g : Option (Nat × Bool)) (tm : Tr X) (y n : Tr X → Prop) : Prop :=
  @Option.rec (Nat × Bool) (fun _ => Prop) (y tm) (fun jw => @Prod.rec Nat Bool (fun _ => Prop) (fun j want => @Option.rec Tmp (fun _ => Prop) False (fun d => grdX (get .unk (enc d) tm) want d tm y n) (dstAt ops j)) jw) g
def ropO (cl : CL) (T : Tr TI) (ops : List Oper) (o : Oper) (tm zm : Tr X) (nx : Pth) (K : Tr X → Tr X → Pth → Prop) : Prop :=
  grdK ops o.guard tm (fun tm => zop cl T tm o.op zm nx fun v zm nx _ _ => putD o.dst v tm fun tm => K tm zm nx) (fun tm => putD o.dst (.tup []) tm fun tm => K tm zm nx)
def rops (cl : CL) (T : Tr TI) (ops l : List Oper) : (tm zm : Tr X) → Pth → (Tr X → Tr X → Pth → Prop) → Prop :=
  @List.rec Oper (fun _ => Tr X → Tr X → Pth → (Tr X → Tr X → Pth → Prop) → Prop) (fun tm zm nx K => K tm zm nx) (fun o _ ih tm zm nx K => ropO cl T ops o tm zm nx fun tm zm nx => ih tm zm nx K) l

/-! ### Results -/
def rvK (T : Tr TI) (tm zm : Tr X) (r : ResultVar) (f : X → Prop) : Prop :=
  @ResultVar.rec (fun _ => Prop) (fun t => fX (get .unk (enc t) tm) f) (fun a t => tyK T t fun c _ _ _ => asPtr (get .unk (enc a) tm) fun id p c1 => ifP (Nat.beq c1 c) (blkV (get .unk id zm) fun v => fX (pathX p v) f)) r
def rvL (T : Tr TI) (tm zm : Tr X) (l : List ResultVar) : (List X → Prop) → Prop :=
  @List.rec ResultVar (fun _ => (List X → Prop) → Prop) (fun f => f []) (fun r _ ih f => rvK T tm zm r fun x => fXp x fun x => ih fun l => f (x :: l)) l
def resK (T : Tr TI) (tm zm : Tr X) (l : List ResultVar) (f : X → Prop) : Prop :=
  @List.rec ResultVar (fun _ => Prop) (f (.tup [])) (fun r l' _ => @List.rec ResultVar (fun _ => Prop) (rvK T tm zm r f) (fun _ _ _ => rvL T tm zm l fun l => f (.tup l)) l') l
def retK (T : Tr TI) (rs : List ResultVar) (K : X → Tr X → Pth → Prop) (e : Exit) (tm zm : Tr X) (nx : Pth) : Prop :=
  @Exit.rec (fun _ => Prop) (resK T tm zm rs fun v => K v zm nx) (fun _ => False) (fun _ => False) (resK T tm zm rs fun v => K v zm nx) (fun _ => False) False e
def bindK (l : List X) : Pth → Tr X → (Tr X → Prop) → Prop := @List.rec X (fun _ => Pth → Tr X → (Tr X → Prop) → Prop) (fun _ t K => K t) (fun x _ ih p t K => setTK x p t fun t => ih (psucc p) t K) l
def appX (l r : List X) : List X := @List.rec X (fun _ => List X) r (fun x _ ih => x :: ih) l
theorem appX_eq (l r : List X) : appX l r = l ++ r := by
  induction l with
  | nil => rfl
  | cons x l ih => show x :: appX l r = x :: (l ++ r); rw [ih]
/-- A function by its contract: what is asked of the arguments, and the result. -/
inductive CtO where
  | no
  | ct (f : List X → (X → Prop) → Prop)
inductive FTb where
  | mk (ft : Tr (Option Func)) (ct : Tr CtO)
def FTb.ft : FTb → Tr (Option Func)
  | .mk f _ => f
def FTb.ct : FTb → Tr CtO
  | .mk _ c => c
def callB (run : RUN) (FT : FTb) (T : Tr TI) (fid : FuncId) (caps args : List X) (zm : Tr X) (nx : Pth) (K : X → Tr X → Pth → Prop) : Prop :=
  @Option.rec Func (fun _ => Prop) False (fun fn => @Option.rec Code (fun _ => Prop) False (fun c => bindK (appX args caps) [] .e fun tm => run c tm zm nx (retK T fn.results.toList K)) fn.body) (get none (enc fid) FT.ft)
def callZ (run : RUN) (FT : FTb) (T : Tr TI) (f : X) (args : List X) (zm : Tr X) (nx : Pth) (K : X → Tr X → Pth → Prop) : Prop :=
  asFn f fun fid caps => @CtO.rec (fun _ => Prop) (callB run FT T fid caps args zm nx K) (fun g => xNil caps (g args fun v => K v zm nx)) (get .no (enc fid) FT.ct)
def seqCL (run : RUN) (FT : FTb) (T : Tr TI) : CL := fun f l zm nx K => callZ run FT T f l zm nx fun v zm nx => K v zm nx [] []

/-! ### Code -/
def seqK (run : RUN) (b : Code) (K : K3) (e : Exit) : Tr X → Tr X → Pth → Prop :=
  @Exit.rec (fun _ => Tr X → Tr X → Pth → Prop) (fun tm zm nx => run b tm zm nx K) (fun i => K (.exit i)) (fun i => K (.goto i)) (K .ret) (fun c => K (.panic c)) (K .outgrown) e
def blockK (id : Nat) (K : K3) (e : Exit) : Tr X → Tr X → Pth → Prop :=
  @Exit.rec (fun _ => Tr X → Tr X → Pth → Prop) (K .normal) (fun i => bRec (Nat.beq i id) (K .normal) (K (.exit i))) (fun i => K (.goto i)) (K .ret) (fun c => K (.panic c)) (K .outgrown) e
def scopeK (K : K3) (e : Exit) : Tr X → Tr X → Pth → Prop :=
  @Exit.rec (fun _ => Tr X → Tr X → Pth → Prop) (K .normal) (fun i => K (.exit i)) (fun _ _ _ _ => False) (K .ret) (fun c => K (.panic c)) (K .outgrown) e
def regK (run : RUN) (FT : FTb) (T : Tr TI) (ops : List Oper) (tm zm : Tr X) (nx : Pth) (K : K3) : Prop := rops (seqCL run FT T) T ops ops tm zm nx (K .normal)
/-! ### Regions in whatever order -/
inductive ZTE where
  | mk (o : Oper) (lo hi : Nat) (up rd : List Nat)
def ZTE.o : ZTE → Oper | .mk o _ _ _ _ => o
def ZTE.lo : ZTE → Nat | .mk _ l _ _ _ => l
def ZTE.hi : ZTE → Nat | .mk _ _ h _ _ => h
def ZTE.up : ZTE → List Nat | .mk _ _ _ u _ => u
def ZTE.rd : ZTE → List Nat | .mk _ _ _ _ r => r
def inNew (te : ZTE) (id : Nat) : Bool := Nat.ble te.lo id && Nat.ble (Nat.succ id) te.hi
def zin (te : ZTE) (id : Nat) : Bool := te.up.any (fun j => Nat.beq j id) || inNew te id
def zrd (te : ZTE) (id : Nat) : Bool := te.rd.any fun j => Nat.beq j id
def zclashM (te te' : ZTE) : Bool :=
  te'.up.any (fun id => zin te id || zrd te id) || te'.rd.any (zin te) || te.up.any (inNew te') || te.rd.any (inNew te') || (Nat.ble (Nat.succ te.lo) te'.hi && Nat.ble (Nat.succ te'.lo) te.hi)
def edgeO (o : Oper) (k : Nat) : Bool := o.after.any fun e => Region.binds .any e && e.on == k
def clashO (o o' : Oper) (ops : Array Oper) : Bool := clash ⟨o, skipE, 0, false⟩ ⟨o', skipE, 0, false⟩ ops
def drawZ (ops : Array Oper) : List ZTE → Bool
  | [] => true
  | te :: r => drawZ ops r && (te.o.after.all fun e => !(Region.binds .any e) || decide (e.on < r.length)) && against te r
where against (te : ZTE) : List ZTE → Bool
  | [] => true
  | te' :: r' => (edgeO te.o r'.length || !(clashO te.o te'.o ops || zclashM te te')) && against te r'
def numsK (l : List Pth) (f : List Nat → Prop) : Prop := @List.rec Pth (fun _ => (List Nat → Prop) → Prop) (fun f => f []) (fun p _ ih f => forceN (num p) fun n => ih fun l => f (n :: l)) l f
def rdrO (cl : CL) (T : Tr TI) (ops : List Oper) (o : Oper) (tm zm : Tr X) (nx : Pth) (K : Tr X → Tr X → Pth → ZTE → Prop) : Prop :=
  grdK ops o.guard tm (fun tm => zop cl T tm o.op zm nx fun v zm nx' up rd => putD o.dst v tm fun tm => forceN (num nx) fun lo => forceN (num nx') fun hi => numsK up fun up => numsK rd fun rd => K tm zm nx' (.mk o lo hi up rd))
    (fun tm => putD o.dst (.tup []) tm fun tm => forceN (num nx) fun lo => K tm zm nx (.mk o lo lo [] []))
def rdraw (cl : CL) (T : Tr TI) (ops l : List Oper) : (tm zm : Tr X) → Pth → List ZTE → (Tr X → Tr X → Pth → List ZTE → Prop) → Prop :=
  @List.rec Oper (fun _ => Tr X → Tr X → Pth → List ZTE → (Tr X → Tr X → Pth → List ZTE → Prop) → Prop) (fun tm zm nx tr K => K tm zm nx tr) (fun o _ ih tm zm nx tr K => rdrO cl T ops o tm zm nx fun tm zm nx te => ih tm zm nx (te :: tr) K) l
/-- A call that looks at nothing that was there. -/
def isoCL (run : RUN) (FT : FTb) (T : Tr TI) : CL := fun f l zm nx K => callZ run FT T f l .e nx fun v _ nx => K v zm nx [] []
def drwK (run : RUN) (FT : FTb) (T : Tr TI) (ops : Array Oper) (tm zm : Tr X) (nx : Pth) (K : K3) : Prop :=
  rdraw (isoCL run FT T) T ops.toList ops.toList tm zm nx [] fun tm zm nx tr => ifP (drawZ ops tr) (K .normal tm zm nx)
def run (FT : FTb) (T : Tr TI) (fuel : Nat) : RUN :=
  @Nat.rec (fun _ => RUN) (fun _ _ _ _ _ => False) (fun _ run c tm zm nx K => @Code.rec (fun _ => Prop)
    (K .normal tm zm nx) (fun _ ops draw => bRec draw (drwK run FT T ops tm zm nx K) (regK run FT T ops.toList tm zm nx K)) (fun a b _ _ => run a tm zm nx (seqK run b K))
    (fun c x y _ _ => condK tm c fun b tm => bRec b (run x tm zm nx K) (run y tm zm nx K)) (fun id b _ => run b tm zm nx (blockK id K)) (fun b _ => run b tm zm nx (seqK run (.loop b) K))
    (fun _ _ _ _ _ _ => False) (fun i => K (.exit i) tm zm nx) (fun b _ => run b tm zm nx (scopeK K)) (fun _ => K .normal tm zm nx) (fun _ => False) (K .ret tm zm nx) (fun _ => False) c) fuel
end
end Go.Ab
