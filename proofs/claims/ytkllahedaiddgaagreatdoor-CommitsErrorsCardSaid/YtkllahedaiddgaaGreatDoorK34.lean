/- Walks: pieces whose results are told without the memory; blocks. No condition. -/
import Derived.Test.YtkllahedaiddgaaGreatDoorK21
set_option linter.unusedSimpArgs false
set_option linter.unusedVariables false
namespace Go.K
open Go.Ab Go.RowKit Go.Y
noncomputable section
variable [KGl]
theorem JL.goY {E:KEnv}{B N mask:Nat}(hE:KOk E) {P:Program}(hP:E.P=P) {n nt:Nat}(rs:List ResultVar) (lt li:List Nat) {l1 l2:List Code}{Q:K4}{lt0:List (Nat×KV)}{lz0:List (Nat×KBlk)}{n0:Nat}(hN:nt≤N) (hO:(l1.all fun c=>cOk nt c)=true) (h1:nd (ltL n0 lz0) (jE mask lt0)=true)
  (R':KV→Prop) (hR:∀ v tr zm nx,R' v→MB (am zm) nx→INV mask tr→RAll P (tv' (zp tr)) (am zm) rs v.v→Q .ret tr zm nx)
  (h:Go.K.kpre E n mask l1 (vE lt0) (vZ lz0) n0 0 (zht P rs lt li (goQ mask lt li (nxt E B N mask l2 Q)) (fun v _ _=>R' v))):JL E B N mask (l1++l2) (vE lt0) (vZ lz0) n0 Q:=by
 obtain⟨q1,q2⟩:=za.1 h1
 refine JL.kpre hE (fun e tr zm nx mx hk m1 m2=>?_) h (zaW hN hO) (MB.mk q1) (INV.mk q2)
 cases e with
 | ret =>
  have hk:Vb P rs (fun v zm nx _=>R' v) .ret tr zm nx mx:=hk
  obtain⟨_,v,r1,r2⟩:=zbZ hk
  exact hR v tr zm nx r1 m1 m2 r2
 | normal=>exact hk tr zm rfl rfl m1 m2
 | exit i=>exact hk tr zm rfl rfl m1 m2
 | goto i=>exact hk tr zm rfl rfl m1 m2
 | panic i=>exact hk tr zm rfl rfl m1 m2
 | outgrown=>exact hk tr zm rfl rfl m1 m2
theorem JL.stp {E:KEnv}{B N mask:Nat}(hE:KOk E) {P:Program}(hP:E.P=P) (k:Nat) {n nt:Nat}(rs:List ResultVar) (lt li:List Nat) {l:List Code}{Q:K4}{s:LS}(hN:nt≤N) (hO:((l.take k).all fun c=>cOk nt c)=true) (h1:nd (ltL s.2.2 s.2.1) (jE mask s.1)=true)
  (R':KV→Prop) (hR:∀ v tr zm nx,R' v→MB (am zm) nx→INV mask tr→RAll P (tv' (zp tr)) (am zm) rs v.v→Q .ret tr zm nx)
  (h:Go.K.kpre E n mask (l.take k) (vE s.1) (vZ s.2.1) s.2.2 0 (zht P rs lt li (goQ mask lt li (nxt E B N mask (l.drop k) Q)) (fun v _ _=>R' v))):JL E B N mask l (vE s.1) (vZ s.2.1) s.2.2 Q:=by
 have:=JL.goY (B:=B) (l2:=l.drop k) (Q:=Q) hE hP rs lt li hN hO h1 R' hR h
 rwa [List.take_append_drop] at this
theorem JL.all {E:KEnv}{B N mask:Nat}(hE:KOk E) {P:Program}(hP:E.P=P) {n nt:Nat}(rs:List ResultVar) (lt li:List Nat) {l:List Code}{Q:K4}{s:LS}(hN:nt≤N) (hO:(l.all fun c=>cOk nt c)=true) (h1:nd (ltL s.2.2 s.2.1) (jE mask s.1)=true)
  (R':KV→Prop) (hR:∀ v tr zm nx,R' v→MB (am zm) nx→INV mask tr→RAll P (tv' (zp tr)) (am zm) rs v.v→Q .ret tr zm nx)
  (h:Go.K.kpre E n mask l (vE s.1) (vZ s.2.1) s.2.2 0 (zht P rs lt li (goQ mask lt li Q) (fun v _ _=>R' v))):JL E B N mask l (vE s.1) (vZ s.2.1) s.2.2 Q:=by
 have hq:nxt E B N mask [] Q=Q:=by
  funext e tr zm nx
  cases e<;>rfl
 have:=JL.goY (B:=B) (l1:=l) (l2:=[]) (Q:=Q) hE hP rs lt li hN hO h1 R' hR (by rw[hq]; exact h)
 rwa [List.append_nil] at this
theorem JL.blk {E:KEnv}{B N mask:Nat}{id:Nat}{X:Code}{l l2:List Code}(hl:l=.block id X::l2) {Q:K4}{tr:KTm}{zm:KZ}{nx:Nat}(h1:MB (am zm) nx) (h2:INV mask tr)
  (h:JL E B N mask (fl X) tr zm nx fun e tr zm nx=>match e with
   | .normal=>JL E B N mask l2 tr zm nx Q
   | .exit i=>if i=id then JL E B N mask l2 tr zm nx Q else Q (.exit i) tr zm nx
   | e=>Q e tr zm nx):JL E B N mask l tr zm nx Q:=by
 subst hl
 show JW E B N mask _ tr zm nx _
 refine JW.block ?_
 refine (JL.code h h1 h2).mono ?_
 intro e tr zm nx m1 m2 hp
 cases e with
 | exit i =>
  have hp:if i=id then JL E B N mask l2 tr zm nx Q else Q (.exit i) tr zm nx:=hp
  by_cases hi:i=id
  ·subst hi
   rw[if_pos rfl] at hp
   exact .inl ⟨rfl,.inl ⟨rfl,hp⟩⟩
  ·rw[if_neg hi] at hp
   exact .inr ⟨by simpa using hi,.inr ⟨by simp,hp⟩⟩
 | normal=>exact .inr ⟨by simp,.inl ⟨rfl,hp⟩⟩
 | goto i=>exact .inr ⟨by simp,.inr ⟨by simp,hp⟩⟩
 | ret=>exact .inr ⟨by simp,.inr ⟨by simp,hp⟩⟩
 | panic i=>exact .inr ⟨by simp,.inr ⟨by simp,hp⟩⟩
 | outgrown=>exact .inr ⟨by simp,.inr ⟨by simp,hp⟩⟩
end
end Go.K
