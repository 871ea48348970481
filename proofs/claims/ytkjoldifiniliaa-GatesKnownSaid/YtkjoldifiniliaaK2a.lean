/- A region in whatever order: chains of edges. No condition. -/
import Derived.Test.YtkjoldifiniliaaK1
set_option linter.unusedVariables false
set_option linter.unusedSimpArgs false
namespace Go.Ab
open Go.RowKit Go.Y
variable [Gl]
/-- Ordered by edges, one after the other. -/
def reach (ops : Array Oper) : Nat → Oper → Nat → Bool
  | 0, o, k => edgeO o k
  | f + 1, o, k => edgeO o k || o.after.any fun e => Region.binds .any e && (match ops[e.on]? with | some o' => reach ops f o' k | none => false)
def edT (ops : Array Oper) (te : TE) (k : Nat) : Bool := reach ops 6 te.o k
omit [Gl] in
theorem edge_edT {ops : Array Oper} {te : TE} {k : Nat} (h : edge te k = true) : edT ops te k = true := by
  unfold edT reach
  rw [show edgeO te.o k = true from h]; rfl
omit [Gl] in
theorem apart_mono {K X : Type} {wr : TE → K → Option X} {uses : TE → K → Prop} {ed ed' : TE → Nat → Bool} (h : ∀ te k, ed te k = true → ed' te k = true) : ∀ {tr : List TE}, Apart wr uses ed tr → Apart wr uses ed' tr
  | [], _ => trivial
  | te :: r, ha => ⟨apart_mono h ha.1, fun l te' r' e hk => h _ _ (ha.2 l te' r' e hk)⟩
omit [Gl] in
theorem reach_inv {ops : Array Oper} {f : Nat} {o : Oper} {k : Nat} (h : reach ops f o k = true) : edgeO o k = true ∨ ∃ (j f' : Nat) (o' : Oper), edgeO o j = true ∧ ops[j]? = some o' ∧ reach ops f' o' k = true ∧ f' < f := by
  cases f with
  | zero => exact .inl h
  | succ f =>
    unfold reach at h
    rw [Bool.or_eq_true] at h
    rcases h with h | h
    · exact .inl h
    · right
      obtain ⟨e, he, hb⟩ := Array.any_eq_true'.1 h
      rw [Bool.and_eq_true] at hb
      obtain ⟨h1, h2⟩ := hb
      split at h2
      · rename_i o' ho
        refine ⟨e.on, f, o', ?_, ho, h2, by omega⟩
        unfold edgeO
        exact Array.any_eq_true'.2 ⟨e, he, by simp [h1]⟩
      · cases h2
theorem reach_closed {P : Program} {B : Nat} {G : Nat → V} {ops : Array Oper} {N : Nat} {tm0 : Nat → V} {m0 : Mem} {n0 : Nat} {tr : List TE} {S : Nat → Bool} (hv : Valid P B G ops N tm0 m0 n0 tr) (hlen : tr.length = ops.size)
    (hback : ∀ l te r, tr = l ++ te :: r → ∀ k, edge te k = true → k < r.length) (hc : Closed S edge tr) : ∀ (f j k : Nat) (o : Oper), ops[j]? = some o → S j = true → reach ops f o k = true → S k = true := by
  intro f
  induction f using Nat.strongRecOn with
  | _ f ih =>
  intro j k o ho hj hk
  have hlt : j < ops.size := (Array.getElem?_eq_some_iff.1 ho).1
  obtain ⟨l, te, r, e, hr⟩ := cut_at tr j (by omega)
  have hop := (Valid.app (l := l) (r := te :: r) (by rw [← e]; exact hv)).2.1
  rw [hr, ho] at hop
  have hte : o = te.o := Option.some.inj hop
  have dir : ∀ k, edgeO o k = true → S k = true := fun k hk => by
    have hk' : edge te k = true := by rw [hte] at hk; exact hk
    exact hc l te r e (by rw [hr]; exact hj) k (hback l te r e k hk') hk'
  rcases reach_inv hk with h1 | ⟨j', f', o', h1, h2, h3, h4⟩
  · exact dir k h1
  · exact ih f' h4 j' k o' h2 (dir j' h1) h3
omit [Gl] in
theorem reach_deps {ops : Array Oper} {te : TE} {S : Nat → Bool} (hcl : ∀ (f j k : Nat) (o : Oper), ops[j]? = some o → S j = true → reach ops f o k = true → S k = true) (hd : ∀ k, edge te k = true → S k = true) {k : Nat} (hk : edT ops te k = true) : S k = true := by
  rcases reach_inv hk with h1 | ⟨j', f', o', h1, h2, h3, h4⟩
  · exact hd k h1
  · exact hcl f' j' k o' h2 (hd j' h1) h3
/-- In whatever order. -/
theorem any_regionT {P : Program} {B : Nat} {C0 : Ctx} {G : Nat → V} {ops : Array Oper} {N : Nat} {tm0 : Nat → V} {m0 : Mem} {n0 : Nat} {tr : List TE} {Q : Exit → Act → World → Prop}
    (hv : Valid P B G ops N tm0 m0 n0 tr) (hlen : tr.length = ops.size) (hT : Apart wrT (useT ops) edge tr) (hM : Apart wrM useM (edT ops) tr) (hback : ∀ l te r, tr = l ++ te :: r → ∀ k, edge te k = true → k < r.length)
    (hal0 : ∀ id, n0 ≤ id → id < nextId n0 tr → ¬ C0.al id) (hG : ∀ g C, Keep C0 C → R C (G g) (.val (.pointer (some ⟨g, 0, none⟩)))) (D : List Deferred)
    (hQ : ∀ a C, a.defers = D → PS B C0 N tm0 m0 tr (fun _ => true) a C → Q .normal a C.w) :
    ∀ (f : Nat) (listed : Array Bool) (a : Act) (C : Ctx), listed.size = ops.size → (List.range ops.size).countP (fun i => !listed.getD i false) ≤ f → Closed (fun i => listed.getD i false) edge tr → a.defers = D →
      PS B C0 N tm0 m0 tr (fun i => listed.getD i false) a C → wpAny P .any ops Q f listed a C.w := by
  have edge_of : ∀ {l r : List TE} {te : TE}, tr = l ++ te :: r → ∀ {o : Oper}, ops[r.length]? = some o → o = te.o := by
    intro l r te e o ho
    have := (Valid.app (l := l) (r := te :: r) (by rw [← e]; exact hv)).2.1
    rw [this] at ho; exact (Option.some.inj ho).symm
  -- whoever is not listed, the first of them may come up
  have first : ∀ (listed : Array Bool), listed.size = ops.size → ∀ i, i < ops.size → listed.getD i false = false → Region.ready .any ops listed ≠ [] := by
    intro listed hz i
    induction i using Nat.strongRecOn with
    | _ i ih =>
      intro hi hun
      by_cases hall : ∀ k, k < i → listed.getD k false = true
      · obtain ⟨l, te, r, e, hr⟩ := cut_at tr i (by omega)
        have hop := (Valid.app (l := l) (r := te :: r) (by rw [← e]; exact hv)).2.1
        rw [hr] at hop
        have : i ∈ Region.ready .any ops listed := by
          refine mem_ready.2 ⟨?_, te.o, hop, fun x hx hb => ?_⟩
          · simp [hz, hi] at hun ⊢; exact hun
          · have h1 : edge te x.on = true := by
              unfold edge
              exact Array.any_eq_true'.2 ⟨x, hx, by simp [hb]⟩
            exact hall _ (by have := hback l te r e _ h1; omega)
        intro h0; rw [h0] at this; cases this
      · have ⟨k, hk⟩ : ∃ k, k < i ∧ listed.getD k false = false := by
          apply Classical.byContradiction
          intro hno
          refine hall fun k hk => ?_
          cases hkl : listed.getD k false with
          | true => rfl
          | false => exact absurd ⟨k, hk, hkl⟩ hno
        exact ih k hk.1 (by omega) hk.2
  have fin : ∀ (listed : Array Bool) (a : Act) (C : Ctx), listed.size = ops.size → a.defers = D → PS B C0 N tm0 m0 tr (fun i => listed.getD i false) a C → Region.ready .any ops listed = [] → Q .normal a C.w := by
    intro listed a C hz hD h h0
    have hS : ∀ i, i < tr.length → listed.getD i false = true := by
      intro i hi
      cases hl : listed.getD i false with
      | true => rfl
      | false => exact absurd h0 (first listed hz i (by omega) hl)
    refine hQ a C hD ?_
    have e1 : look wrM m0 (fun i => listed.getD i false) tr = look wrM m0 (fun _ => true) tr := by funext k; exact look_every k tr hS
    have e2 : ∀ t, look wrT tm0 (fun i => listed.getD i false) tr t = look wrT tm0 (fun _ => true) tr t := fun t => look_every t tr hS
    refine ⟨h.kp, by rw [← e1]; exact h.sr, fun t => by rw [← e2]; exact h.tm t, fun id hid => ?_, h.size⟩
    rcases h.al id hid with h1 | ⟨l, te, r, e, _, h2⟩
    · exact .inl h1
    · exact .inr ⟨l, te, r, e, rfl, h2⟩
  intro f
  induction f with
  | zero =>
    intro listed a C hz hcnt hc hD h
    have h0 : Region.ready .any ops listed = [] := by
      apply Classical.byContradiction
      intro hne
      obtain ⟨i, hi⟩ := List.exists_mem_of_ne_nil _ hne
      obtain ⟨hun, o, ho, _⟩ := mem_ready.1 hi
      have hlt : i < ops.size := (Array.getElem?_eq_some_iff.1 ho).1
      have hun' : listed.getD i false = false := by simp [hz, hlt] at hun ⊢; exact hun
      have : 0 < (List.range ops.size).countP (fun i => !listed.getD i false) := List.countP_pos_iff.2 ⟨i, List.mem_range.2 hlt, by rw [hun']; rfl⟩
      omega
    exact ⟨h0, fin listed a C hz hD h h0⟩
  | succ f ih =>
    intro listed a C hz hcnt hc hD h
    refine ⟨fin listed a C hz hD h, fun i hi => ?_⟩
    obtain ⟨hun, o, ho, hall⟩ := mem_ready.1 hi
    have hlt : i < ops.size := (Array.getElem?_eq_some_iff.1 ho).1
    have hun' : listed.getD i false = false := by simp [hz, hlt] at hun ⊢; exact hun
    obtain ⟨l, te, r, e, hr⟩ := cut_at tr i (by omega)
    subst hr
    have hte := edge_of e ho
    subst hte
    have hS : ∀ j, (listed.setIfInBounds r.length true).getD j false = (listed.getD j false || j == r.length) := by
      intro j
      by_cases hj : r.length = j
      · subst hj; simp [hz, hlt]
      · rw [getD_set_ne false hj]
        have : (j == r.length) = false := by simp; omega
        rw [this, Bool.or_false]
    have hdeps : ∀ k, k < r.length → edge te k = true → listed.getD k false = true := by
      intro k _ hk
      unfold edge at hk
      obtain ⟨x, hx, hb⟩ := Array.any_eq_true'.1 hk
      simp only [Bool.and_eq_true, beq_iff_eq] at hb
      rw [← hb.2]; exact hall x hx hb.1
    have hclT : ∀ (f j k : Nat) (o : Oper), ops[j]? = some o → listed.getD j false = true → reach ops f o k = true → listed.getD k false = true := fun f j k o ho hj hk => reach_closed (S := fun i => listed.getD i false) hv hlen hback hc f j k o ho hj hk
    have hdT : ∀ k, k < r.length → edT ops te k = true → listed.getD k false = true := fun k _ hk => reach_deps (S := fun i => listed.getD i false) hclT (fun k hk => hdeps k (hback l te r e k hk) hk) hk
    have hcT : Closed (fun i => listed.getD i false) (edT ops) tr := fun l' te' r' e' hs k _ hk => hclT 6 r'.length k te'.o (Valid.app (l := l') (r := te' :: r') (by rw [← e']; exact hv)).2.1 hs hk
    refine PS.step (S := fun i => listed.getD i false) e hv (apart_mono (fun te k h => edge_edT h) hT) hM hal0 hG hcT hun' hdT h ?_
    intro v C' hd' h'
    have hS' : (fun j => (listed.setIfInBounds r.length true).getD j false) = fun j => listed.getD j false || j == r.length := funext hS
    refine ih _ _ C' (by simp [hz]) ?_ ?_ (by rw [← hd']; exact hD) (by rw [hS']; exact h')
    · have := countP_lt (p := fun i => !listed.getD i false) (q := fun i => !(listed.setIfInBounds r.length true).getD i false) (List.range ops.size) (x := r.length) (fun y _ hy => by
        simp only [hS, Bool.not_or, Bool.and_eq_true] at hy; exact hy.1) (List.mem_range.2 hlt) (by rw [hun']; rfl) (by simp only [hS]; simp)
      omega
    · intro l' te' r' e' hs k hk hek
      simp only [hS, Bool.or_eq_true, beq_iff_eq] at hs ⊢
      rcases hs with hs | hs
      · exact .inl (hc l' te' r' e' hs k hk hek)
      · left
        have : te' = te := by
          have h1 := (Valid.app (l := l') (r := te' :: r') (by rw [← e']; exact hv)).2.1
          have h2 : l ++ te :: r = l' ++ te' :: r' := by rw [← e, ← e']
          have h3 := List.append_inj' h2 (by simp [hs])
          simp only [List.cons.injEq] at h3
          exact h3.2.1.symm
        subst this
        exact hdeps k (by omega) hek

end Go.Ab
