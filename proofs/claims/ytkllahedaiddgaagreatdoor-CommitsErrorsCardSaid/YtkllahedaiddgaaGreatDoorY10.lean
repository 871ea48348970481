/- Steps of code, from equations of runs. No condition. -/
import Derived.Test.YtkllahedaiddgaaGreatDoorY8
set_option linter.constructorNameAsVariable false
set_option linter.unusedSimpArgs false
set_option linter.unusedVariables false
namespace Go.Y
open Go.Ab Go.RowKit
noncomputable section
variable [Gl]
section
variable {P:Program}{ct:qZ}{B N:Nat}
def v7 (c:Code):Code:=match c with
 | .seq a _=>a
 | c=>c
def xi (c:Code):Code:=match c with
 | .seq _ b=>b
 | c=>c
def qG (c:Code):Code:=match c with
 | .block _ b=>b
 | .loop b=>b
 | .scope b=>b
 | c=>c
def zgx (c:Code):Bool:=match c with
 | .seq _ _=>true
 | _=>false
def WN (c:Code):Bool:=match c with
 | .loop _=>true
 | _=>false
def zgy (i:Nat) (c:Code):Bool:=match c with
 | .block j _=>Nat.beq j i
 | _=>false
omit [Gl] in
theorem zfc {c:Code}(h:zgx c=true):c=.seq (v7 c) (xi c):=by
 cases c<;>first | rfl | cases h
omit [Gl] in
theorem zbQ {c:Code}(h:WN c=true):c=.loop (qG c):=by
 cases c<;>first | rfl | cases h
omit [Gl] in
theorem zfd {i:Nat}{c:Code}(h:zgy i c=true):c=.block i (qG c):=by
 cases c<;>first
  | cases h
  | (have:=Nat.eq_of_beq_eq_true h; subst this; rfl)
section
variable {tm tm1:Tm}{zm zm1:Zm}{nx:Nat}{K:K3}{c:Code}
theorem WR.seq' (hc:zgx c=true) (h:WR P B N (v7 c) tm zm nx (zdN (fun tm zm nx=>WR P B N (xi c) tm zm nx K) K)):WR P B N c tm zm nx K:=by
 rw[zfc hc]; exact WR.seq h
theorem WR.block' {i:Nat}(hc:zgy i c=true) (h:WR P B N (qG c) tm zm nx (VN i K)):WR P B N c tm zm nx K:=by
 rw[zfd hc]; exact WR.block h
theorem WR.weak (hE:Env P ct) (hwt:WkT nx tm tm1) (hwz:WkZ nx zm zm1) (hkb:KB zm nx) (h:WR P B N c tm1 zm1 nx K):WR P B N c tm zm nx K:=by
 obtain⟨e,tm',zm',nx',k1,k2,k3,k4⟩:=h
 refine⟨e,tm',zm',nx',k1,k2,k3,fun H C M a hH hz ht=>?_⟩
 obtain⟨C3,M3,q1,q2,q3,q4⟩:=QO hE.gn (by omega) hz hkb hz ht (YC.refl C M zm nx) hwt hwz
 have h5:=k4 H C3 M3 a hH q2 q3
 rw[q1] at h5
 refine wp_mono h5 ?_
 rintro e' a' w' ⟨rfl,C',M',rfl,hf⟩
 exact⟨rfl,C',M',rfl,hf.yr,hf.yt,q4.trans hf.yc (Nat.le_refl _) k3⟩
theorem WR.count (hE:Env P ct) (nb n:Nat) (S:Nat→Tm) (Z:Nat→Zm) (hkb:KB zm nx) (hc:WN c=true) (hwt:WkT nx tm (S 0)) (hwz:WkZ nx zm (Z 0))
  (step:∀ t,t < n→WR P B N (qG c) (S t) (Z t) nx (fun e tm' zm' nx'=>nx'≤nb∧e=.normal∧WkT nx tm' (S (t + 1))∧WkZ nx zm' (Z (t + 1))))
  (out:WR P B N (qG c) (S n) (Z n) nx (fun e tm' zm' nx'=>nx'≤nb∧e≠.normal∧K e tm' zm' nb)):WR P B N c tm zm nx K:=by
 rw[zbQ hc]
 refine WR.weak hE hwt hwz hkb ?_
 refine WR.loop hE nb (fun m tm zm=>∃ t,t + m=n∧tm=S t∧zm=Z t) ?_ n (S 0) (Z 0) ⟨0,by omega,rfl,rfl⟩ hwz.kb
 rintro m tm2 zm2 ⟨t,ht,rfl,rfl⟩ hk
 cases m with
 | zero =>
  obtain rfl:t=n:=by omega
  refine out.mono fun e tm' zm' nx' _ h=>⟨h.1,fun he=>absurd he h.2.1,fun _=>h.2.2⟩
 | succ m =>
  refine (step t (by omega)).mono fun e tm' zm' nx' _ h=>⟨h.1,fun _=>⟨m,S (t + 1),Z (t + 1),by omega,h.2.2.1,h.2.2.2,t + 1,by omega,rfl,rfl⟩,fun he=>absurd h.2.1 he⟩
theorem WR.go (hE:Env P ct) {u:Bool}{n nt:Nat}(hN:nt≤N) (hO:cOk nt c=true) (hkb:KB zm nx) {Q:K3}(h:Go.Y.run P Gl.G ct u n c tm zm nx Q) (hQ:∀ e tm zm nx,KB zm nx→Q e tm zm nx→K e tm zm nx):WR P B N c tm zm nx K :=
 (WR.run hE h (xG hN hO) hkb).mono hQ
end
def ztO (Q:V→Prop) (v:V) (zm:Zm) (_:Nat):Prop:=Q (frz (gm zm) 12 v)
def ztP (c:CSpec) (l:List V) (v:V):Prop:=v.le (c.res l)∧(c.fresh=true→v.own)
end
end
end Go.Y
namespace Go.Y
open Go.Ab Go.RowKit
noncomputable section
variable [Gl]
abbrev Q4:=Exit→List V→List (Option Blk)→Nat→Prop
section
variable {P:Program}{ct:qZ}{B N nt nx:Nat}{c c2:Code}{tm:Tm}{zm:Zm}{K:K3}{u:Bool}{fu:Nat}
theorem WR.piece (hE:Env P ct) (hN:nt≤N) (hO:cOk nt c=true) (hkb:KB zm nx) (lt li:List Nat) {e:Exit}{vs0:List V}{bs0:List (Option Blk)}{nx':Nat}(vs:List V) (bs:List Blk)
  (h:∀ Q:Q4,Go.Y.run P Gl.G ct u fu c tm zm nx (xY lt li Q)=Q e vs0 bs0 nx')
  (hK:∀ tm' zm',lt.map (tv tm')=vs0→li.map (gm zm')=bs0→KB zm' nx'→K e tm' zm' nx'):WR P B N c tm zm nx K:=by
 have h1:Go.Y.run P Gl.G ct u fu c tm zm nx (xY lt li fun e2 v b n=>e2=e∧v=vs0∧b=bs0∧n=nx'):=by rw[h]; exact⟨rfl,rfl,rfl,rfl⟩
 refine WR.go hE hN hO hkb h1 ?_
 rintro e2 tm2 zm2 nx2 hk ⟨rfl,h2,h3,rfl⟩
 exact hK tm2 zm2 h2 h3 hk
theorem WR.then (hE:Env P ct) (hN:nt≤N) (hO:cOk nt c=true) (hkb:KB zm nx) (lt li:List Nat) {vs0:List V}{bs0:List (Option Blk)}{nx':Nat}(vs:List V) (bs:List Blk)
  (h:∀ Q:Q4,Go.Y.run P Gl.G ct u fu c tm zm nx (xY lt li Q)=Q .normal vs0 bs0 nx') (hv:J8 nx' vs0 vs) (hb:WF nx' li bs0 bs)
  (hK:KB (mkZ li bs) nx'→WR P B N c2 (mkT lt vs) (mkZ li bs) nx' K):WR P B N c tm zm nx (zdN (fun tm zm nx=>WR P B N c2 tm zm nx K) K):=by
 refine WR.piece hE hN hO hkb lt li vs bs h fun tm' zm' h1 h2 hk=>?_
 have hz:WkZ nx' zm' (mkZ li bs):=VL (by rw[h2]; exact hb)
 exact WR.weak hE (wH (by rw[h1]; exact hv)) hz hk (hK hz.kb)
theorem jS (hE:Env P ct) {i:Nat}(lt li:List Nat) {vs0:List V}{bs0:List (Option Blk)}(vs:List V) (bs:List Blk) (tm':Tm) (zm':Zm)
  (h1:lt.map (tv tm')=vs0) (h2:li.map (gm zm')=bs0) (hk:KB zm' nx) (hv:J8 nx vs0 vs) (hb:WF nx li bs0 bs) (hK:KB (mkZ li bs) nx→WR P B N c2 (mkT lt vs) (mkZ li bs) nx K) :
  VN i (zdN (fun tm zm nx=>WR P B N c2 tm zm nx K) K) (.exit i) tm' zm' nx:=by
 have hz:WkZ nx zm' (mkZ li bs):=VL (by rw[h2]; exact hb)
 show @Bool.rec (fun _=>Tm→Zm→Nat→Prop) _ _ (Nat.beq i i) tm' zm' nx
 rw[Nat.beq_refl]
 exact WR.weak hE (wH (by rw[h1]; exact hv)) hz hk (hK hz.kb)
theorem WR.loopN (hE:Env P ct) (hN:nt≤N) (hO:cOk nt (qG c)=true) (hkb:KB zm nx) (hc:WN c=true) (nb n:Nat) (lt li:List Nat) (vs:Nat→List V) (bs:Nat→List Blk)
  (h0:J8 nx (lt.map (tv tm)) (vs 0)) (h1:WF nx li (li.map (gm zm)) (bs 0))
  (vs':Nat→List V) (bs':Nat→List (Option Blk)) (nx':Nat→Nat)
  (step:∀ t,t < n→(∀ Q:Q4,Go.Y.run P Gl.G ct u fu (qG c) (mkT lt (vs t)) (mkZ li (bs t)) nx (xY lt li Q)=Q .normal (vs' t) (bs' t) (nx' t))∧nx' t≤nb∧J8 nx (vs' t) (vs (t + 1))∧WF nx li (bs' t) (bs (t + 1)))
  (lt2 li2:List Nat) {e:Exit}{vs2:List V}{bs2:List (Option Blk)}{nx2:Nat}(he:e≠.normal)
  (out:∀ Q:Q4,Go.Y.run P Gl.G ct u fu (qG c) (mkT lt (vs n)) (mkZ li (bs n)) nx (xY lt2 li2 Q)=Q e vs2 bs2 nx2) (hnx2:nx2≤nb)
  (hK:∀ tm' zm',lt2.map (tv tm')=vs2→li2.map (gm zm')=bs2→KB zm' nb→K e tm' zm' nb):WR P B N c tm zm nx K:=by
 have hz0:WkZ nx zm (mkZ li (bs 0)):=VL h1
 have kbs:∀ t,t≤n→KB (mkZ li (bs t)) nx:=by
  intro t ht
  cases t with
  | zero=>exact hz0.kb
  | succ t =>
   obtain⟨_,_,_,q⟩:=step t (by omega)
   have:∀(li:List Nat) (bs0:List (Option Blk)) (bs:List Blk),WF nx li bs0 bs→KB (mkZ li bs) nx:=by
    intro li
    induction li with
    | nil=>intro bs0 bs _ id hid; cases bs<;>exact J4 id
    | cons i li ih =>
     intro bs0 bs h
     cases bs with
     | nil=>intro id hid; exact J4 id
     | cons b bs =>
      cases bs0 with
      | nil=>exact h.elim
      | cons x bs0 =>
       obtain⟨⟨q1,q2⟩,q3⟩:=h
       intro id hid
       show gm (set (some b) (enc i) (mkZ li bs)) id=none
       rw[WC,if_neg (by omega)]
       exact ih bs0 bs q3 id hid
   exact this _ _ _ q
 refine WR.count hE nb n (fun t=>mkT lt (vs t)) (fun t=>mkZ li (bs t)) hkb hc (wH h0) hz0 ?_ ?_
 ·intro t ht
  obtain⟨q1,q2,q3,q4⟩:=step t ht
  refine WR.piece hE hN hO (kbs t (by omega)) lt li (vs (t + 1)) (bs (t + 1)) q1 fun tm' zm' h1 h2 hk=>⟨q2,rfl,wH (by rw[h1]; exact q3),VL (by rw[h2]; exact q4)⟩
 ·refine WR.piece hE hN hO (kbs n (Nat.le_refl _)) lt2 li2 vs2 [] out fun tm' zm' h1 h2 hk=>⟨hnx2,he,hK tm' zm' h1 h2 fun id hid=>hk id (by omega)⟩
end
end
end Go.Y
