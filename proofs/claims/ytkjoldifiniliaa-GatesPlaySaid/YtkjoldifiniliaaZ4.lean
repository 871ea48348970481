/- The operations of the run that the kernel carries out, and that they are right. No condition. -/
import Derived.Test.YtkjoldifiniliaaZ3
set_option linter.unusedVariables false
set_option linter.unusedSimpArgs false
set_option linter.constructorNameAsVariable false
namespace Go.Ab
open Go.RowKit
noncomputable section

/-! ### Memory -/
def zblk (P : Program) : X → Option Blk
  | .box v => some ⟨.box, shX P v, v.toV P⟩
  | .rowb e v => some ⟨.row e, shX P v, v.toV P⟩
  | _ => none
def zmem (P : Program) (zm : Tr X) : Mem := fun id => zblk P (get .unk (enc id) zm)
def Sub (m M : Mem) : Prop := ∀ id b, m id = some b → M id = some b
def WFB (P : Program) : X → Prop
  | .box v => WF P v
  | .rowb _ v => WF P v
  | _ => True
def WFM (P : Program) (zm : Tr X) : Prop := ∀ p, WFB P (get .unk p zm)
inductive WFT (P : Program) : X → Prop where
  | one {x : X} (h : WF P x) : WFT P x
  | tup {l : List X} (h : ∀ y ∈ l, WF P y) : WFT P (.tup l)
def WFS (P : Program) (tm : Tr X) : Prop := ∀ p, WFT P (get .unk p tm)

theorem WF.lf {P : Program} {x : X} (h : (match x with | .agg .. | .arr .. | .tup _ | .box _ | .rowb .. | .fn .. => false | _ => true) = true) : WF P x := by
  refine .leaf ?_ ?_ ?_ ?_
  · cases x <;> first | rfl | cases h
  · intro c l e; subst e; cases h
  · intro c n t d e; subst e; cases h
  · intro c l e; subst e; cases h

/-! ### Operands -/
def ofValX : Value → X
  | .int k n => .int k n
  | .bool b => .bool b
  | .string s => .str s
  | .pointer none => .nilp
  | .slice none 0 0 => .nils
  | .nilFunc => .nilf
  | _ => .unk
theorem toV_ofVal (P : Program) (v : Value) : (ofValX v).toV P = V.ofVal v := by
  unfold ofValX V.ofVal
  split <;> simp only [X.toV]
theorem wf_ofVal (P : Program) (v : Value) : WF P (ofValX v) := by
  unfold ofValX
  split <;> exact .lf rfl
def evO (tm : Tr X) (o : Operand) : X := @Operand.rec (fun _ => X) (fun t => get .unk (enc t) tm) ofValX (fun _ => .unk) (fun f => .fn f []) o
/-- What the operands stand for. -/
def rho (P : Program) (tm : Tr X) : Operand → V := opv (fun _ => .unk) fun t => (get .unk (enc t) tm).toV P
theorem evO_toV (P : Program) (tm : Tr X) (o : Operand) : (evO tm o).toV P = rho P tm o := by
  cases o with
  | tmp t => rfl
  | const v => exact toV_ofVal P v
  | global g => rfl
  | func f => rfl
theorem evO_wf {P : Program} {tm : Tr X} (h : WFS P tm) (o : Operand) : WFT P (evO tm o) := by
  cases o with
  | tmp t => exact h _
  | const v => exact .one (wf_ofVal P v)
  | global g => exact .one (.lf rfl)
  | func f => exact .one (.fn (by intro x h; cases h))
theorem WFT.wf {P : Program} {x : X} (h : WFT P x) (hx : ∀ l, x ≠ .tup l) : WF P x := by
  cases h with
  | one h => exact h
  | tup => exact absurd rfl (hx _)
def evK (tm : Tr X) (o : Operand) (f : X → Prop) : Prop := fX (evO tm o) f
theorem evK_eq (tm : Tr X) (o : Operand) (f : X → Prop) : evK tm o f = f (evO tm o) := fX_eq _ _

abbrev KT := X → Tr X → Pth → List Pth → List Pth → Prop

/-- What an operation has done. -/
structure ZStep (P : Program) (B : Nat) (o : Oper) (tm zm zm' : Tr X) (nx nx' : Pth) (v : X) (up rd : List Pth) (e : Eff) : Prop where
  val : e.v = v.toV P
  wf : WFT P v
  wfm : WFM P zm'
  nxt : num nx' = num nx + e.nw.length
  ups : e.up.map (·.1) = up.map num
  rds : e.rd = rd.map num
  upk : ∀ x ∈ e.up, ∃ b, zmem P zm x.1 = some b
  kn : ∀ id, (id < num nx ∨ num nx' ≤ id) → zmem P zm id = none → zmem P zm' id = none
  sem : ∀ M, Sub (zmem P zm) M → OpSem P B o (rho P tm) M (num nx) e
  sub : ∀ M, Sub (zmem P zm) M → Sub (zmem P zm') (put M (num nx) e)

/-- Whoever agrees on what is looked at, and on what is changed. -/
theorem OpSem.agree {P : Program} {B : Nat} {o : Oper} {ρ : Operand → V} {m m' : Mem} {n : Nat} {e : Eff} (h : OpSem P B o ρ m n e) (hr : ∀ id ∈ e.rd, m' id = m id) (hu : ∀ x ∈ e.up, m' x.1 = m x.1) : OpSem P B o ρ m' n e :=
  fun C M ρc h1 h2 h3 h4 h5 => h C M ρc h1 (fun id hid => (h2 id hid).trans (hr id hid)) (fun x hx => (h3 x hx).trans (hu x hx)) h4 h5

section
variable {P : Program} {B : Nat} {o : Oper} {tm zm : Tr X} {nx : Pth} {T : Tr TI} {K : KT}

theorem ZStep.pure {v : X} {rd : List Pth} (hwm : WFM P zm) (hwf : WFT P v) (hs : OpSem P B o (rho P tm) (zmem P zm) (num nx) ⟨v.toV P, [], [], rd.map num⟩) (hr : ∀ id ∈ rd, ∃ b, zmem P zm (num id) = some b) : ZStep P B o tm zm zm nx nx v [] rd ⟨v.toV P, [], [], rd.map num⟩ :=
  ⟨rfl, hwf, hwm, rfl, rfl, rfl, (by intro x h; cases h), (fun _ _ h => h), fun M hM => hs.agree (fun id hid => by
    obtain ⟨p, hp, rfl⟩ := List.mem_map.1 hid
    obtain ⟨b, hb⟩ := hr p hp
    rw [hb, hM _ _ hb]) (fun x hx => by cases hx), fun M hM => by rw [put_pure]; exact hM⟩

theorem enc_ne {id : Nat} {p : Pth} (h : id ≠ num p) : enc id ≠ p := fun e => h (by rw [← e, num_enc])
theorem wfm_set {x : X} {p : Pth} (hwm : WFM P zm) (hx : WFB P x) : WFM P (set x p zm) := fun q => by
  rw [get_set]; split
  · exact hx
  · exact hwm q
theorem sub_set {M : Mem} {x : X} {b : Blk} (hM : Sub (zmem P zm) M) (hx : zblk P x = some b) (p : Pth) : Sub (zmem P (set x p zm)) (upd M (num p) (some b)) := by
  intro id c hc
  unfold zmem at hc
  by_cases h : id = num p
  · subst h
    rw [enc_num, get_set_same, hx] at hc
    rw [upd_same]; exact hc
  · rw [get_set_ne _ _ _ _ _ (enc_ne h)] at hc
    rw [upd_other _ _ h]; exact hM id c hc
theorem ZStep.new {v x : X} {b : Blk} (hwm : WFM P zm) (hwf : WFT P v) (hx : zblk P x = some b) (hxw : WFB P x) (hs : ∀ M, OpSem P B o (rho P tm) M (num nx) ⟨v.toV P, [], [b], []⟩) :
    ZStep P B o tm zm (set x nx zm) nx (psucc nx) v [] [] ⟨v.toV P, [], [b], []⟩ :=
  ⟨rfl, hwf, wfm_set hwm hxw, num_psucc nx, rfl, rfl, (by intro x h; cases h), (fun id hid h => by rw [num_psucc] at hid; unfold zmem at h ⊢; rw [get_set_ne _ _ _ _ _ (enc_ne (by omega))]; exact h), fun M _ => hs M, fun M hM => by rw [put_new]; exact sub_set hM hx nx⟩

def blkV (x : X) (f : X → Prop) : Prop := asBlk x f (fun _ v => f v)

theorem blkV_inv {x : X} {f : X → Prop} (h : blkV x f) : ∃ v b, zblk P x = some b ∧ b.alive = true ∧ b.sh = shX P v ∧ b.v = v.toV P ∧ (WFB P x → WF P v) ∧ f v := by
  rcases asBlk_inv h with ⟨v, rfl, h⟩ | ⟨e, v, rfl, h⟩
  · exact ⟨v, _, rfl, rfl, rfl, rfl, fun h => h, h⟩
  · exact ⟨v, _, rfl, rfl, rfl, rfl, fun h => h, h⟩
theorem zmem_num (p : Pth) : zmem P zm (num p) = zblk P (get .unk p zm) := by unfold zmem; rw [enc_num]

/-! ### One by one -/
def z_move (tm : Tr X) (x : Operand) (zm : Tr X) (nx : Pth) (K : KT) : Prop := K (evO tm x) zm nx [] []
theorem z_move_inv {x : Operand} (ho : o.op = .move x ∨ o.op = .assign x) (hwm : WFM P zm) (hws : WFS P tm) (h : z_move tm x zm nx K) : ∃ v zm' nx' up rd e, ZStep P B o tm zm zm' nx nx' v up rd e ∧ K v zm' nx' up rd :=
  ⟨_, _, _, _, _, _, ZStep.pure hwm (evO_wf hws x) (by rw [evO_toV]; exact sem_move ho) (by intro id h; cases h), h⟩

def forkX (x : X) (f : Bool → Prop) : Prop := @X.rec (fun _ => Prop) (fun _ => Unit) (fun _ => Unit) (fun _ _ => False) (f) (fun _ _ => False) (fun b => (b = true → f true) ∧ (b = false → f false)) (fun _ => False) (fun _ _ _ => False) (fun _ _ _ _ _ _ => False) (fun _ _ _ => False) (fun _ _ _ => False) (fun _ _ _ _ _ _ => False) False False False (fun _ _ _ => False) (fun _ _ => False) (fun _ _ => False) (fun _ _ _ => False) False () (fun _ _ _ _ => ()) () (fun _ _ _ _ _ _ _ _ => ()) (fun _ _ _ _ _ _ _ _ _ _ => ()) x
theorem forkX_inv {P : Program} {x : X} {f : Bool → Prop} (h : forkX x f) : ∃ b, x.toV P = .bool b ∧ f b := by
  cases x with
  | bool b => exact ⟨b, rfl, h⟩
  | sbool b =>
    have h1 : (b = true → f true) ∧ (b = false → f false) := h
    cases b with
    | true => exact ⟨true, rfl, h1.1 rfl⟩
    | false => exact ⟨false, rfl, h1.2 rfl⟩
  | _ => exact False.elim h
def z_pick (tm : Tr X) (c a b : Operand) (zm : Tr X) (nx : Pth) (K : KT) : Prop := forkX (evO tm c) fun t => K (bRec t (evO tm a) (evO tm b)) zm nx [] []
theorem z_pick_inv {c a b : Operand} (ho : o.op = .pick c a b) (hwm : WFM P zm) (hws : WFS P tm) (h : z_pick tm c a b zm nx K) : ∃ v zm' nx' up rd e, ZStep P B o tm zm zm' nx nx' v up rd e ∧ K v zm' nx' up rd := by
  obtain ⟨t, hc, h⟩ := forkX_inv (P := P) h
  refine ⟨_, _, _, _, _, _, ZStep.pure hwm ?_ ?_ (by intro id h; cases h), h⟩
  · cases t
    · exact evO_wf hws b
    · exact evO_wf hws a
  · have h1 : rho P tm c = .bool t := by rw [← evO_toV, hc]
    have h2 : (bRec t (evO tm a) (evO tm b)).toV P = V.ite t (rho P tm a) (rho P tm b) := by
      rw [V.ite_eq]
      cases t
      · exact evO_toV P tm b
      · exact evO_toV P tm a
    rw [h2]
    exact sem_pick ho h1

theorem sem_alloc' {ρ : Operand → V} {m : Mem} {n : Nat} {t : TypeId} {s : Shape} {z : V} (ho : o.op = .alloc t) (hz : ZeroIs P t s z) : OpSem P B o ρ m n ⟨.ptr n [] s, [], [⟨.box, s, z⟩], []⟩ := by
  intro C M ρc hs _ _ hn _
  obtain ⟨_, i, zv, h1, h2, h3, h4⟩ := hz
  rw [put_new]
  refine does_new hs (by simpa using hn 0 (by simp)) (cs := zv.cells) (t := t) ?_ h3 (R.held _ h4)
  simp [execOp, ho, Instr.alloc, zeroValue, typeInfo, h1, h2, newVar, newRow]
def z_alloc (T : Tr TI) (t : TypeId) (zm : Tr X) (nx : Pth) (K : KT) : Prop := tyK T t fun c sc z k => okSt c sc k z (setTK (.box z) nx zm fun zm => K (.ptr nx [] c) zm (psucc nx) [] [])
theorem z_alloc_inv (hT : TTok P T) {t : TypeId} (ho : o.op = .alloc t) (hwm : WFM P zm) (h : z_alloc T t zm nx K) : ∃ v zm' nx' up rd e, ZStep P B o tm zm zm' nx nx' v up rd e ∧ K v zm' nx' up rd := by
  obtain ⟨c, sc, z, k, ht, h⟩ := tyK_inv hT h
  obtain ⟨hf, h⟩ := okSt_inv ht h
  rw [setTK_eq] at h
  rcases ht.z with rfl | ⟨h1, h2, h3⟩
  · have := hf.known; simp [X.toV, V.known] at this
  · refine ⟨_, _, _, _, _, _, ZStep.new (x := .box z) hwm (.one (.lf rfl)) rfl h1 fun M => ?_, h⟩
    rw [h2]
    exact sem_alloc' ho h3

def z_box (T : Tr TI) (tm : Tr X) (t : TypeId) (x : Operand) (zm : Tr X) (nx : Pth) (K : KT) : Prop :=
  tyK T t fun c sc z k => evK tm x fun v => okSt c sc k v (setTK (.box v) nx zm fun zm => K (.ptr nx [] c) zm (psucc nx) [] [])
theorem Fit.wf {c : Nat} {x : X} (hf : Fit P c x) (h : WFT P x) : WF P x := h.wf hf.nt
theorem sem_box' {ρ : Operand → V} {m : Mem} {n : Nat} {t : TypeId} {x : Operand} {s : Shape} (ho : o.op = .box t x) (hf : (ρ x).fits s = true) (hk : (ρ x).known = true) : OpSem P B o ρ m n ⟨.ptr n [] s, [], [⟨.box, s, ρ x⟩], []⟩ := sem_box ho hf hk
theorem z_box_inv (hT : TTok P T) {t : TypeId} {x : Operand} (ho : o.op = .box t x) (hwm : WFM P zm) (hws : WFS P tm) (h : z_box T tm t x zm nx K) : ∃ v zm' nx' up rd e, ZStep P B o tm zm zm' nx nx' v up rd e ∧ K v zm' nx' up rd := by
  obtain ⟨c, sc, z, k, ht, h⟩ := tyK_inv hT h
  rw [evK_eq] at h
  obtain ⟨hf, h⟩ := okSt_inv ht h
  rw [setTK_eq] at h
  have hw := hf.wf (evO_wf hws x)
  refine ⟨_, _, _, _, _, _, ZStep.new (x := .box (evO tm x)) hwm (.one (.lf rfl)) rfl hw fun M => ?_, h⟩
  have h1 := hw.fits
  rw [hf.sh] at h1 ⊢
  have h2 := hf.known
  rw [evO_toV] at h1 h2 ⊢
  exact sem_box' ho h1 h2

def z_load (T : Tr TI) (tm : Tr X) (t : TypeId) (a : Operand) (zm : Tr X) (nx : Pth) (K : KT) : Prop :=
  tyK T t fun c _ _ _ => asPtr (evO tm a) fun id p c1 => ifP (Nat.beq c1 c) (blkV (get .unk id zm) fun v => fX (pathX p v) fun v => K v zm nx [] [id])
theorem z_load_inv (hT : TTok P T) {t : TypeId} {a : Operand} (ho : o.op = .load t a) (hwm : WFM P zm) (hws : WFS P tm) (h0 : z_load T tm t a zm nx K) : ∃ v zm' nx' up rd e, ZStep P B o tm zm zm' nx nx' v up rd e ∧ K v zm' nx' up rd := by
  obtain ⟨c, sc, z, k, ht, h1⟩ := tyK_inv hT h0
  obtain ⟨id, p, c1, ha, h2⟩ := asPtr_inv h1
  obtain ⟨hc, h3⟩ := ifP_inv h2
  obtain rfl := nbeq hc
  obtain ⟨v, b, hb, hal, hsh, hv, hw, h4⟩ := blkV_inv (P := P) h3
  rw [fX_eq] at h4
  obtain ⟨d, hd⟩ := ht.un
  have hm : zmem P zm (num id) = some b := by rw [zmem_num]; exact hb
  have hr : rho P tm a = .ptr (num id) p (shOf P c1) := by rw [← evO_toV, ha]; rfl
  have hsem : OpSem P B o (rho P tm) (zmem P zm) (num nx) ⟨b.v.path p, [], [], [num id]⟩ := sem_load ho hr hm hal ht.sh hd
  rw [hv, ← toV_path] at hsem
  exact ⟨_, _, _, _, _, _, ZStep.pure (rd := [id]) hwm (.one (WF.pathX p (hw (hwm id)))) hsem (by intro i hi; simp only [List.mem_singleton] at hi; subst hi; exact ⟨b, hm⟩), h4⟩

def z_store (T : Tr TI) (tm : Tr X) (t : TypeId) (a x : Operand) (zm : Tr X) (nx : Pth) (K : KT) : Prop :=
  tyK T t fun c sc _ k => asPtr (evO tm a) fun id p c1 => ifP (Nat.beq c1 c) (evK tm x fun x => okSt c sc k x
    (asBlk (get .unk id zm) (fun v => setXK (tagOk c sc k) x p v fun v => setTK (.box v) id zm fun zm => K (.tup []) zm nx [id] [])
      (fun e v => setXK (tagOk c sc k) x p v fun v => setTK (.rowb e v) id zm fun zm => K (.tup []) zm nx [id] [])))
theorem ZStep.up {v x : X} {id : Pth} {b c : Blk} (hwm : WFM P zm) (hwf : WFT P v) (hb : zmem P zm (num id) = some b) (hx : zblk P x = some c) (hxw : WFB P x) (hs : OpSem P B o (rho P tm) (zmem P zm) (num nx) ⟨v.toV P, [(num id, c)], [], []⟩) :
    ZStep P B o tm zm (set x id zm) nx nx v [id] [] ⟨v.toV P, [(num id, c)], [], []⟩ :=
  ⟨rfl, hwf, wfm_set hwm hxw, rfl, rfl, rfl, (by intro x h; simp only [List.mem_singleton] at h; subst h; exact ⟨b, hb⟩), (fun i _ h => by
    have hne : i ≠ num id := fun e => by subst e; rw [hb] at h; cases h
    unfold zmem at h ⊢; rw [get_set_ne _ _ _ _ _ (enc_ne hne)]; exact h), fun M hM => hs.agree (fun i hi => by cases hi) (fun y hy => by
    simp only [List.mem_singleton] at hy
    subst hy
    rw [hb, hM _ _ hb]), fun M hM => by rw [put_up]; exact sub_set hM hx id⟩
theorem z_store_inv (hT : TTok P T) {t : TypeId} {a x : Operand} (ho : o.op = .store t a x) (hwm : WFM P zm) (hws : WFS P tm) (h0 : z_store T tm t a x zm nx K) : ∃ v zm' nx' up rd e, ZStep P B o tm zm zm' nx nx' v up rd e ∧ K v zm' nx' up rd := by
  obtain ⟨c, sc, z, k, ht, h1⟩ := tyK_inv hT h0
  obtain ⟨id, p, c1, ha, h2⟩ := asPtr_inv h1
  obtain ⟨hc, h3⟩ := ifP_inv h2
  obtain rfl := nbeq hc
  rw [evK_eq] at h3
  obtain ⟨hf, h4⟩ := okSt_inv ht h3
  have hw := hf.wf (evO_wf hws x)
  have hr : rho P tm a = .ptr (num id) p (shOf P c1) := by rw [← evO_toV, ha]; rfl
  have hfit : (rho P tm x).fits (shOf P c1) = true := by rw [← evO_toV, ← hf.sh]; exact hw.fits
  have hkn : (rho P tm x).known = true := by rw [← evO_toV]; exact hf.known
  rcases asBlk_inv h4 with ⟨v, hb, h5⟩ | ⟨e, v, hb, h5⟩
  · have hm : zmem P zm (num id) = some ⟨.box, shX P v, v.toV P⟩ := by rw [zmem_num, hb]; rfl
    have hwv : WF P v := by have := hwm id; rw [hb] at this; exact this
    obtain ⟨h6, h7, h8⟩ := setXK_inv (fun w q hq => tagOk_inv ht w q hq) hw hf.sh p v _ hwv h5
    rw [setTK_eq] at h6
    have hsem : OpSem P B o (rho P tm) (zmem P zm) (num nx) ⟨.tup .nl, [(num id, ⟨.box, shX P v, V.set p (rho P tm x) (v.toV P)⟩)], [], []⟩ := sem_store ho hr hm rfl ht.sh hfit hkn
    rw [← evO_toV, ← toV_set, ← h8] at hsem
    exact ⟨_, _, _, _, _, _, ZStep.up (x := .box (setX (evO tm x) p v)) (v := .tup []) hwm (.tup (by intro y hy; cases hy)) hm rfl h7 hsem, h6⟩
  · have hm : zmem P zm (num id) = some ⟨.row e, shX P v, v.toV P⟩ := by rw [zmem_num, hb]; rfl
    have hwv : WF P v := by have := hwm id; rw [hb] at this; exact this
    obtain ⟨h6, h7, h8⟩ := setXK_inv (fun w q hq => tagOk_inv ht w q hq) hw hf.sh p v _ hwv h5
    rw [setTK_eq] at h6
    have hsem : OpSem P B o (rho P tm) (zmem P zm) (num nx) ⟨.tup .nl, [(num id, ⟨.row e, shX P v, V.set p (rho P tm x) (v.toV P)⟩)], [], []⟩ := sem_store ho hr hm rfl ht.sh hfit hkn
    rw [← evO_toV, ← toV_set, ← h8] at hsem
    exact ⟨_, _, _, _, _, _, ZStep.up (x := .rowb e (setX (evO tm x) p v)) (v := .tup []) hwm (.tup (by intro y hy; cases hy)) hm rfl h7 hsem, h6⟩

end
end
end Go.Ab
