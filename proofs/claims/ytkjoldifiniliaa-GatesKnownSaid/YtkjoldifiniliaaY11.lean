/- Steps of code, from equations of runs. No condition. -/
import Derived.Test.YtkjoldifiniliaaY10
set_option linter.unusedVariables false
set_option linter.unusedSimpArgs false
set_option linter.constructorNameAsVariable false
namespace Go.Y
open Go.Ab Go.RowKit
noncomputable section
variable [Gl]
abbrev Q4 := Exit → List V → List (Option Blk) → Nat → Prop
section
variable {P : Program} {ct : CTab} {B N nt nx : Nat} {c c2 : Code} {tm : Tm} {zm : Zm} {K : K3} {u : Bool} {fu : Nat}

/-- A piece that ends as it should; what is known behind it. -/
theorem WR.piece (hE : Env P ct) (hN : nt ≤ N) (hO : cOk nt c = true) (hkb : KB zm nx) (lt li : List Nat) {e : Exit} {vs0 : List V} {bs0 : List (Option Blk)} {nx' : Nat} (vs : List V) (bs : List Blk)
    (h : ∀ Q : Q4, Go.Y.run P Gl.G ct u fu c tm zm nx (outK lt li Q) = Q e vs0 bs0 nx')
    (hK : ∀ tm' zm', lt.map (tv tm') = vs0 → li.map (gm zm') = bs0 → KB zm' nx' → K e tm' zm' nx') : WR P B N c tm zm nx K := by
  have h1 : Go.Y.run P Gl.G ct u fu c tm zm nx (outK lt li fun e2 v b n => e2 = e ∧ v = vs0 ∧ b = bs0 ∧ n = nx') := by rw [h]; exact ⟨rfl, rfl, rfl, rfl⟩
  refine WR.go hE hN hO hkb h1 ?_
  rintro e2 tm2 zm2 nx2 hk ⟨rfl, h2, h3, rfl⟩
  exact hK tm2 zm2 h2 h3 hk
/-- One piece after the other. -/
theorem WR.then (hE : Env P ct) (hN : nt ≤ N) (hO : cOk nt c = true) (hkb : KB zm nx) (lt li : List Nat) {vs0 : List V} {bs0 : List (Option Blk)} {nx' : Nat} (vs : List V) (bs : List Blk)
    (h : ∀ Q : Q4, Go.Y.run P Gl.G ct u fu c tm zm nx (outK lt li Q) = Q .normal vs0 bs0 nx') (hv : wkVs nx' vs0 vs) (hb : wkBs nx' li bs0 bs)
    (hK : KB (mkZ li bs) nx' → WR P B N c2 (mkT lt vs) (mkZ li bs) nx' K) : WR P B N c tm zm nx (thenK (fun tm zm nx => WR P B N c2 tm zm nx K) K) := by
  refine WR.piece hE hN hO hkb lt li vs bs h fun tm' zm' h1 h2 hk => ?_
  have hz : WkZ nx' zm' (mkZ li bs) := WkZ_mk (by rw [h2]; exact hb)
  exact WR.weak hE (WkT_mk (by rw [h1]; exact hv)) hz hk (hK hz.kb)
/-- Behind it, in a block that is left by it. -/
theorem exit_then (hE : Env P ct) {i : Nat} (lt li : List Nat) {vs0 : List V} {bs0 : List (Option Blk)} (vs : List V) (bs : List Blk) (tm' : Tm) (zm' : Zm)
    (h1 : lt.map (tv tm') = vs0) (h2 : li.map (gm zm') = bs0) (hk : KB zm' nx) (hv : wkVs nx vs0 vs) (hb : wkBs nx li bs0 bs) (hK : KB (mkZ li bs) nx → WR P B N c2 (mkT lt vs) (mkZ li bs) nx K) :
    blockK i (thenK (fun tm zm nx => WR P B N c2 tm zm nx K) K) (.exit i) tm' zm' nx := by
  have hz : WkZ nx zm' (mkZ li bs) := WkZ_mk (by rw [h2]; exact hb)
  show @Bool.rec (fun _ => Tm → Zm → Nat → Prop) _ _ (Nat.beq i i) tm' zm' nx
  rw [Nat.beq_refl]
  exact WR.weak hE (WkT_mk (by rw [h1]; exact hv)) hz hk (hK hz.kb)
/-- A loop that counts, from equations. -/
theorem WR.loopN (hE : Env P ct) (hN : nt ≤ N) (hO : cOk nt (cBdy c) = true) (hkb : KB zm nx) (hc : cIsLoop c = true) (nb n : Nat) (lt li : List Nat) (vs : Nat → List V) (bs : Nat → List Blk)
    (h0 : wkVs nx (lt.map (tv tm)) (vs 0)) (h1 : wkBs nx li (li.map (gm zm)) (bs 0))
    (vs' : Nat → List V) (bs' : Nat → List (Option Blk)) (nx' : Nat → Nat)
    (step : ∀ t, t < n → (∀ Q : Q4, Go.Y.run P Gl.G ct u fu (cBdy c) (mkT lt (vs t)) (mkZ li (bs t)) nx (outK lt li Q) = Q .normal (vs' t) (bs' t) (nx' t)) ∧ nx' t ≤ nb ∧ wkVs nx (vs' t) (vs (t + 1)) ∧ wkBs nx li (bs' t) (bs (t + 1)))
    (lt2 li2 : List Nat) {e : Exit} {vs2 : List V} {bs2 : List (Option Blk)} {nx2 : Nat} (he : e ≠ .normal)
    (out : ∀ Q : Q4, Go.Y.run P Gl.G ct u fu (cBdy c) (mkT lt (vs n)) (mkZ li (bs n)) nx (outK lt2 li2 Q) = Q e vs2 bs2 nx2) (hnx2 : nx2 ≤ nb)
    (hK : ∀ tm' zm', lt2.map (tv tm') = vs2 → li2.map (gm zm') = bs2 → KB zm' nb → K e tm' zm' nb) : WR P B N c tm zm nx K := by
  have hz0 : WkZ nx zm (mkZ li (bs 0)) := WkZ_mk h1
  have kbs : ∀ t, t ≤ n → KB (mkZ li (bs t)) nx := by
    intro t ht
    cases t with
    | zero => exact hz0.kb
    | succ t =>
      obtain ⟨_, _, _, q⟩ := step t (by omega)
      have : ∀ (li : List Nat) (bs0 : List (Option Blk)) (bs : List Blk), wkBs nx li bs0 bs → KB (mkZ li bs) nx := by
        intro li
        induction li with
        | nil => intro bs0 bs _ id hid; cases bs <;> exact gm_e id
        | cons i li ih =>
          intro bs0 bs h
          cases bs with
          | nil => intro id hid; exact gm_e id
          | cons b bs =>
            cases bs0 with
            | nil => exact h.elim
            | cons x bs0 =>
              obtain ⟨⟨q1, q2⟩, q3⟩ := h
              intro id hid
              show gm (set (some b) (enc i) (mkZ li bs)) id = none
              rw [gm_set, if_neg (by omega)]
              exact ih bs0 bs q3 id hid
      exact this _ _ _ q
  refine WR.count hE nb n (fun t => mkT lt (vs t)) (fun t => mkZ li (bs t)) hkb hc (WkT_mk h0) hz0 ?_ ?_
  · intro t ht
    obtain ⟨q1, q2, q3, q4⟩ := step t ht
    refine WR.piece hE hN hO (kbs t (by omega)) lt li (vs (t + 1)) (bs (t + 1)) q1 fun tm' zm' h1 h2 hk => ⟨q2, rfl, WkT_mk (by rw [h1]; exact q3), WkZ_mk (by rw [h2]; exact q4)⟩
  · refine WR.piece hE hN hO (kbs n (Nat.le_refl _)) lt2 li2 vs2 [] out fun tm' zm' h1 h2 hk => ⟨hnx2, he, hK tm' zm' h1 h2 fun id hid => hk id (by omega)⟩
end
end
end Go.Y
