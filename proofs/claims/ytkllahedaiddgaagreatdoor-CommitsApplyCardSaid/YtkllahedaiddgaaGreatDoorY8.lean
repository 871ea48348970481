/- Steps of code, from equations of runs. No condition. -/
import Derived.Test.YtkllahedaiddgaaGreatDoorY3
set_option linter.unusedSimpArgs false
set_option linter.unusedVariables false
namespace Go.Y
open Go.Ab Go.RowKit
noncomputable section
variable [Gl]
section
variable {P:Program}{ct:yf}{B:Nat}{r:RUN}
theorem zfc (hr:wM P B r) (hE:Env P ct) {id:Nat}{ops:Array Oper}{tm:Tm}{zm:Zm}{nx:Nat}{K:K3}{N:Nat}(h:znl r P Gl.G ct ops tm zm nx K)
  (hD:∀ o∈ops.toList,dOk N o.dst=true) (hkb:KB zm nx) :
  ∃ tm' zm' nx',K .normal tm' zm' nx'∧KB zm' nx'∧nx≤nx'∧VW P B (.region id ops true) tm zm nx N .normal tm' zm' nx':=by
 have hz0:YTr P B ops N tm zm nx tm zm nx [] []:=⟨trivial,fun _=>rfl,rfl,Nat.le_refl _,hkb,fun M hM=>⟨trivial,hM,fun _ _ h=>⟨rfl,h⟩⟩⟩
 obtain⟨tm',zm',nx',tr,zs,k1,hz,hlen⟩:=XX hr hE ops.toList tm zm nx [] [] (by simp) hD hz0 h
 obtain⟨hdr,hk⟩:=ze.1 k1
 have hlen':tr.length=ops.size:=by simpa using hlen
 refine⟨tm',zm',nx',hk,hz.kb,hz.le,fun H C M a hH hzr ht=>?_⟩
 obtain⟨hv,hsub,hfr⟩:=hz.mem M hzr.sub
 obtain⟨hTa,hMa,hback⟩:=yH (W3 hz.corr hdr)
 refine wpIn_wide.1 (wpIn_region_any (n:=0) hE.mixed ?_)
 obtain⟨hsd,hkd⟩:=hzr.sr.drew
 have hl0:(fun i=>(Array.replicate ops.size false).getD i false)=fun _=>false:=by
  funext i
  simp only[Array.getD_eq_getD_getElem?,Array.getElem?_replicate]
  split<;>rfl
 have hno:∀ {K X:Type}(wr:TE→K→Option X) (base:K→X),Ab.look wr base (fun _=>false) tr=base:=fun wr base=>funext fun k=>jX k tr (fun i _=>rfl)
 have hps:PS B { C with w:=C.w.drew } N (tv tm) M tr (fun _=>false) a { C with w:=C.w.drew }:=by
  refine⟨Kp.refl B _,by rw[hno]; exact hsd,fun t=>by rw[hno]; exact R.keep hkd.toKeep _ _ (ht.tv t),fun id h=>.inl h,ht.size⟩
 have hnx:=hz.nxe
 have hQ:∀(a':Act) (C':Ctx),a'.defers=a.defers→PS B { C with w:=C.w.drew } N (tv tm) M tr (fun _=>true) a' C'→zi4 B H C M zm nx N .normal tm' zm' nx' .normal a' C'.w:=by
  intro a' C' hd hps'
  have hal:∀ id,C'.al id→C.al id∨(nx≤id∧id < nx'):=fun id hid=>by
   rcases hps'.al id hid with h1 | ⟨l,te,r,e,_,h2,h3⟩
   ·exact .inl h1
   ·have:=(xR hv).2 te (by rw[e]; simp)
    exact .inr ⟨by omega,by omega⟩
  refine⟨rfl,C',_,rfl,⟨hps'.sr,hsub,fun id h1 h2 h3=>?_⟩,⟨fun t=>?_,hps'.size,by rw[hd]; exact ht.defers⟩,⟨hkd.trans hps'.kp,hal,fun id hid hn=>hfr id (by omega) hn⟩⟩
  ·rcases hal id h3 with h4 | h4
   ·exact hzr.al id (by have:=hz.le; omega) h2 h4
   ·omega
  ·have:=hps'.tm t
   rw[←hz.tv t] at this; exact this
 refine zar (ro:=none) (C0:={ C with w:=C.w.drew }) (G:=Gl.G) hv hlen' hTa hMa hback (fun id h1 h2=>hzr.al id h1 (by omega)) (fun g C' hk'=>R.keep hk' _ _ (hsd.gl g)) a.defers hQ ops.size (Array.replicate ops.size false) a _ (by simp) ?_ ?_ rfl (by rw[hl0]; exact hps)
 ·have:=List.countP_le_length (p:=fun i=>!(Array.replicate ops.size false).getD i false) (l:=List.range ops.size)
  simpa using this
 ·intro l te r e hs'
  rw[hl0] at hs'; cases hs'
inductive LoopOut (P:Program) (B:Nat) (c:Code) (N:Nat) (e:Exit) (tm':Tm) (zm':Zm) (nx':Nat):Nat→Tm→Zm→Nat→Prop where
 | out {k:Nat}{tm:Tm}{zm:Zm}{nx:Nat}(h:VW P B c tm zm nx N e tm' zm' nx') (he:e≠.normal) (hle:nx≤nx'):LoopOut P B c N e tm' zm' nx' (k + 1) tm zm nx
 | round {k:Nat}{tm tm1:Tm}{zm zm1:Zm}{nx nx1:Nat}(h:VW P B c tm zm nx N .normal tm1 zm1 nx1) (hle:nx≤nx1) (h2:LoopOut P B c N e tm' zm' nx' k tm1 zm1 nx1):LoopOut P B c N e tm' zm' nx' (k + 1) tm zm nx
theorem LoopOut.le {c:Code}{N k:Nat}{e:Exit}{tm tm':Tm}{zm zm':Zm}{nx nx':Nat}(h:LoopOut P B c N e tm' zm' nx' k tm zm nx):nx≤nx':=by
 induction h with
 | out h he hle=>exact hle
 | round h hle h2 ih=>omega
theorem LoopOut.runs {c:Code}{N k:Nat}{e:Exit}{tm tm':Tm}{zm zm':Zm}{nx nx':Nat}(h:LoopOut P B c N e tm' zm' nx' k tm zm nx):VW P B (.loop c) tm zm nx N e tm' zm' nx':=by
 intro H C M a hH hz ht
 refine wp_loop_ghost (fun n a w=>∃ C' M' tm1 zm1 nx1,C'.w=w∧YR B H C' M' zm1 nx1∧YT C' tm1 a N∧YC B H C M zm nx C' M' zm1 nx1∧nx≤nx1∧LoopOut P B c N e tm' zm' nx' n tm1 zm1 nx1) k ⟨C,M,tm,zm,nx,rfl,hz,ht,YC.refl C M zm nx,Nat.le_refl _,h⟩ ?_
 rintro n a w ⟨C1,M1,tm1,zm1,nx1,rfl,h1,h2,h3,h4,h5⟩
 cases h5 with
 | out hr he hle =>
  refine wp_mono (hr H C1 M1 a hH h1 h2) ?_
  rintro e' a' w' ⟨rfl,C2,M2,rfl,hf⟩
  have hq:zi4 B H C M zm nx N e' tm' zm' nx' e' a' C2.w:=⟨rfl,C2,M2,rfl,hf.yr,hf.yt,h3.trans hf.yc h4 hle⟩
  cases e' with
  | normal=>exact absurd rfl he
  | _=>exact hq
 | @round k _ tm2 _ zm2 _ nx2 hr hle h6 =>
  refine wp_mono (hr H C1 M1 a (by have:=h6.le; omega) h1 h2) ?_
  rintro e' a' w' ⟨rfl,C2,M2,rfl,hf⟩
  exact⟨k,by omega,C2,M2,tm2,zm2,nx2,rfl,hf.yr,hf.yt,h3.trans hf.yc h4 hle,by omega,h6⟩
theorem Yg {c:Code}{N:Nat}{K:K3}{u:Bool}:∀(n:Nat),(∀ m,m < n→wM P B (run P Gl.G ct u m))→cOk N c=true→∀(tm:Tm) (zm:Zm) (nx:Nat),run P Gl.G ct u n (.loop c) tm zm nx K→KB zm nx →
  ∃ e tm' zm' nx' k,K e tm' zm' nx'∧KB zm' nx'∧LoopOut P B c N e tm' zm' nx' k tm zm nx
 | 0,_,_,tm,zm,nx,h,_=>BadN.elim (n:=14) h
 | n + 1,IH,hO,tm,zm,nx,h,hkb=>by
  cases u with
  | false=>exact BadN.elim (n:=12) h
  | true =>
  obtain⟨e,tm1,zm1,nx1,k1,k4,k5,k6⟩:=IH n (by omega) c tm zm nx (zjd (run P Gl.G ct true n) (.loop c) K) N h hO hkb
  cases e with
  | normal =>
   obtain⟨e2,tm2,zm2,nx2,k,q1,q4,q5⟩:=Yg n (fun m hm=>IH m (by omega)) hO tm1 zm1 nx1 k1 k4
   exact⟨e2,tm2,zm2,nx2,k + 1,q1,q4,.round k6 k5 q5⟩
  | exit i=>exact⟨_,tm1,zm1,nx1,1,k1,k4,.out k6 (by intro h; cases h) k5⟩
  | goto i=>exact⟨_,tm1,zm1,nx1,1,k1,k4,.out k6 (by intro h; cases h) k5⟩
  | ret=>exact⟨_,tm1,zm1,nx1,1,k1,k4,.out k6 (by intro h; cases h) k5⟩
  | panic c=>exact⟨_,tm1,zm1,nx1,1,k1,k4,.out k6 (by intro h; cases h) k5⟩
  | outgrown=>exact⟨_,tm1,zm1,nx1,1,k1,k4,.out k6 (by intro h; cases h) k5⟩
def WR (P:Program) (B N:Nat) (c:Code) (tm:Tm) (zm:Zm) (nx:Nat) (K:K3):Prop :=
 ∃ e tm' zm' nx',K e tm' zm' nx'∧KB zm' nx'∧nx≤nx'∧VW P B c tm zm nx N e tm' zm' nx'
section
variable {N:Nat}{tm:Tm}{zm:Zm}{nx:Nat}{K:K3}
theorem WR.mono {c:Code}{K':K3}(h:WR P B N c tm zm nx K) (hk:∀ e tm zm nx,KB zm nx→K e tm zm nx→K' e tm zm nx):WR P B N c tm zm nx K':=by
 obtain⟨e,tm',zm',nx',k1,k2,k3,k4⟩:=h
 exact⟨e,tm',zm',nx',hk _ _ _ _ k2 k1,k2,k3,k4⟩
theorem WR.skip (hkb:KB zm nx) (h:K .normal tm zm nx):WR P B N .skip tm zm nx K:=⟨.normal,tm,zm,nx,h,hkb,Nat.le_refl _,fun H C M a _ hz ht=>wp_skip ⟨rfl,C,M,rfl,hz,ht,YC.refl C M zm nx⟩⟩
theorem WR.label {l:Nat}(hkb:KB zm nx) (h:K .normal tm zm nx):WR P B N (.label l) tm zm nx K:=⟨.normal,tm,zm,nx,h,hkb,Nat.le_refl _,fun H C M a _ hz ht=>wp_label ⟨rfl,C,M,rfl,hz,ht,YC.refl C M zm nx⟩⟩
theorem WR.exit {i:Nat}(hkb:KB zm nx) (h:K (.exit i) tm zm nx):WR P B N (.exit i) tm zm nx K:=⟨.exit i,tm,zm,nx,h,hkb,Nat.le_refl _,fun H C M a _ hz ht=>wp_exit ⟨rfl,C,M,rfl,hz,ht,YC.refl C M zm nx⟩⟩
theorem WR.ret (hkb:KB zm nx) (h:K .ret tm zm nx):WR P B N .ret tm zm nx K:=⟨.ret,tm,zm,nx,h,hkb,Nat.le_refl _,fun H C M a _ hz ht=>wp_ret ⟨rfl,C,M,rfl,hz,ht,YC.refl C M zm nx⟩⟩
def zlp (Q:Tm→Zm→Nat→Prop) (K:K3) (e:Exit):Tm→Zm→Nat→Prop:=match e with
 | .normal=>Q
 | e=>K e
theorem WR.seq {x y:Code}(h:WR P B N x tm zm nx (zlp (fun tm zm nx=>WR P B N y tm zm nx K) K)):WR P B N (.seq x y) tm zm nx K:=by
 obtain⟨e,tm1,zm1,nx1,k1,k4,k5,k6⟩:=h
 cases e with
 | normal =>
  obtain⟨e2,tm2,zm2,nx2,q1,q4,q5,q6⟩:=(show WR P B N y tm1 zm1 nx1 K from k1)
  refine⟨e2,tm2,zm2,nx2,q1,q4,by omega,fun H C M a hH hz ht=>wp_seq (wp_mono (k6 H C M a (by omega) hz ht) ?_)⟩
  rintro e' a' w' ⟨rfl,C',M',rfl,hf⟩
  refine wp_mono (q6 H C' M' a' hH hf.yr hf.yt) ?_
  rintro e' a'' w' ⟨rfl,C'',M'',rfl,hf'⟩
  exact⟨rfl,C'',M'',rfl,hf'.yr,hf'.yt,hf.yc.trans hf'.yc k5 q5⟩
 | exit i=>exact⟨_,tm1,zm1,nx1,k1,k4,k5,fun H C M a hH hz ht=>wp_seq (wp_mono (k6 H C M a hH hz ht) (by rintro e' a' w' ⟨rfl,hf⟩; exact⟨rfl,hf⟩))⟩
 | goto i=>exact⟨_,tm1,zm1,nx1,k1,k4,k5,fun H C M a hH hz ht=>wp_seq (wp_mono (k6 H C M a hH hz ht) (by rintro e' a' w' ⟨rfl,hf⟩; exact⟨rfl,hf⟩))⟩
 | ret=>exact⟨_,tm1,zm1,nx1,k1,k4,k5,fun H C M a hH hz ht=>wp_seq (wp_mono (k6 H C M a hH hz ht) (by rintro e' a' w' ⟨rfl,hf⟩; exact⟨rfl,hf⟩))⟩
 | panic c=>exact⟨_,tm1,zm1,nx1,k1,k4,k5,fun H C M a hH hz ht=>wp_seq (wp_mono (k6 H C M a hH hz ht) (by rintro e' a' w' ⟨rfl,hf⟩; exact⟨rfl,hf⟩))⟩
 | outgrown=>exact⟨_,tm1,zm1,nx1,k1,k4,k5,fun H C M a hH hz ht=>wp_seq (wp_mono (k6 H C M a hH hz ht) (by rintro e' a' w' ⟨rfl,hf⟩; exact⟨rfl,hf⟩))⟩
theorem WR.block {id:Nat}{x:Code}(h:WR P B N x tm zm nx (zaw id K)):WR P B N (.block id x) tm zm nx K:=by
 obtain⟨e,tm1,zm1,nx1,k1,k4,k5,k6⟩:=h
 cases e with
 | exit i =>
  have k1':@Bool.rec (fun _=>Tm→Zm→Nat→Prop) (K (.exit i)) (K .normal) (Nat.beq i id) tm1 zm1 nx1:=k1
  cases hb:Nat.beq i id with
  | true =>
   rw[hb] at k1'
   have hi:=Nat.eq_of_beq_eq_true hb
   refine⟨.normal,tm1,zm1,nx1,k1',k4,k5,fun H C M a hH hz ht=>wp_block (wp_mono (k6 H C M a hH hz ht) ?_)⟩
   rintro e' a' w' ⟨rfl,hf⟩
   simp only[Exit.inBlock,hi,if_true]
   exact⟨rfl,hf⟩
  | false =>
   rw[hb] at k1'
   have hi:¬ i=id:=fun e=>by subst e; rw[Nat.beq_refl] at hb; cases hb
   refine⟨.exit i,tm1,zm1,nx1,k1',k4,k5,fun H C M a hH hz ht=>wp_block (wp_mono (k6 H C M a hH hz ht) ?_)⟩
   rintro e' a' w' ⟨rfl,hf⟩
   simp only[Exit.inBlock,hi,if_false]
   exact⟨rfl,hf⟩
 | normal=>exact⟨_,tm1,zm1,nx1,k1,k4,k5,fun H C M a hH hz ht=>wp_block (wp_mono (k6 H C M a hH hz ht) (by rintro e' a' w' ⟨rfl,hf⟩; exact⟨rfl,hf⟩))⟩
 | goto i=>exact⟨_,tm1,zm1,nx1,k1,k4,k5,fun H C M a hH hz ht=>wp_block (wp_mono (k6 H C M a hH hz ht) (by rintro e' a' w' ⟨rfl,hf⟩; exact⟨rfl,hf⟩))⟩
 | ret=>exact⟨_,tm1,zm1,nx1,k1,k4,k5,fun H C M a hH hz ht=>wp_block (wp_mono (k6 H C M a hH hz ht) (by rintro e' a' w' ⟨rfl,hf⟩; exact⟨rfl,hf⟩))⟩
 | panic c=>exact⟨_,tm1,zm1,nx1,k1,k4,k5,fun H C M a hH hz ht=>wp_block (wp_mono (k6 H C M a hH hz ht) (by rintro e' a' w' ⟨rfl,hf⟩; exact⟨rfl,hf⟩))⟩
 | outgrown=>exact⟨_,tm1,zm1,nx1,k1,k4,k5,fun H C M a hH hz ht=>wp_block (wp_mono (k6 H C M a hH hz ht) (by rintro e' a' w' ⟨rfl,hf⟩; exact⟨rfl,hf⟩))⟩
theorem WR.scope {x:Code}(h:WR P B N x tm zm nx (zax K)):WR P B N (.scope x) tm zm nx K:=by
 obtain⟨e,tm1,zm1,nx1,k1,k4,k5,k6⟩:=h
 cases e with
 | goto i=>exact BadN.elim (n:=11) k1
 | normal=>exact⟨_,tm1,zm1,nx1,k1,k4,k5,fun H C M a hH hz ht=>wp_scope_straight (wp_mono (k6 H C M a hH hz ht) (by rintro e' a' w' ⟨rfl,hf⟩; exact⟨rfl,hf⟩))⟩
 | exit i=>exact⟨_,tm1,zm1,nx1,k1,k4,k5,fun H C M a hH hz ht=>wp_scope_straight (wp_mono (k6 H C M a hH hz ht) (by rintro e' a' w' ⟨rfl,hf⟩; exact⟨rfl,hf⟩))⟩
 | ret=>exact⟨_,tm1,zm1,nx1,k1,k4,k5,fun H C M a hH hz ht=>wp_scope_straight (wp_mono (k6 H C M a hH hz ht) (by rintro e' a' w' ⟨rfl,hf⟩; exact⟨rfl,hf⟩))⟩
 | panic c=>exact⟨_,tm1,zm1,nx1,k1,k4,k5,fun H C M a hH hz ht=>wp_scope_straight (wp_mono (k6 H C M a hH hz ht) (by rintro e' a' w' ⟨rfl,hf⟩; exact⟨rfl,hf⟩))⟩
 | outgrown=>exact⟨_,tm1,zm1,nx1,k1,k4,k5,fun H C M a hH hz ht=>wp_scope_straight (wp_mono (k6 H C M a hH hz ht) (by rintro e' a' w' ⟨rfl,hf⟩; exact⟨rfl,hf⟩))⟩
theorem WR.cond {c:Operand}{x y:Code}(h:zcg Gl.G tm c fun b tm=>@Bool.rec (fun _=>Prop) (WR P B N y tm zm nx K) (WR P B N x tm zm nx K) b):WR P B N (.cond c x y) tm zm nx K:=by
 obtain⟨b,tm1,hb,hsm,h1⟩:=Js h
 have hev:∀(C:Ctx) (M:Mem) (H:Nat) (a:Act),YR B H C M zm nx→YT C tm a N→a.eval c=.bool b:=fun C M H a hz ht=>by
  have:=ht.operand hz.sr.gl c
  rw[hb] at this
  exact this
 cases b with
 | true =>
  obtain⟨e,tm2,zm1,nx1,k1,k4,k5,k6⟩:=(show WR P B N x tm1 zm nx K from h1)
  exact⟨e,tm2,zm1,nx1,k1,k4,k5,fun H C M a hH hz ht=>wp_cond_true (hev C M H a hz ht) (k6 H C M a hH hz (ht.same hsm))⟩
 | false =>
  obtain⟨e,tm2,zm1,nx1,k1,k4,k5,k6⟩:=(show WR P B N y tm1 zm nx K from h1)
  exact⟨e,tm2,zm1,nx1,k1,k4,k5,fun H C M a hH hz ht=>wp_cond_false (hev C M H a hz ht) (k6 H C M a hH hz (ht.same hsm))⟩
end
theorem znt (hE:Env P ct) (u:Bool) (n:Nat):wM P B (run P Gl.G ct u n):=by
 induction n using Nat.strongRecOn with
 | _ n IH =>
 cases n with
 | zero=>intro c tm zm nx K N h; exact BadN.elim (n:=14) h
 | succ n =>
  have ih:=IH n (by omega)
  have wr:∀ {c:Code}{tm:Tm}{zm:Zm}{nx:Nat}{K:K3}{N:Nat},run P Gl.G ct u n c tm zm nx K→cOk N c=true→KB zm nx→WR P B N c tm zm nx K:=fun h hO hkb=>ih _ _ _ _ _ _ h hO hkb
  intro c
  cases c with
  | skip=>intro tm zm nx K N h _ hkb; exact WR.skip hkb h
  | label l=>intro tm zm nx K N h _ hkb; exact WR.label hkb h
  | exit i=>intro tm zm nx K N h _ hkb; exact WR.exit hkb h
  | ret=>intro tm zm nx K N h _ hkb; exact WR.ret hkb h
  | region id ops draw =>
   intro tm zm nx K N h hO hkb
   have hD:∀ o∈ops.toList,dOk N o.dst=true:=List.all_eq_true.1 hO
   cases draw with
   | true =>
    obtain⟨tm',zm',nx',k1,k4,k5,k6⟩:=zfc ih hE (show znl (run P Gl.G ct u n) P Gl.G ct ops tm zm nx K from h) hD hkb
    exact⟨.normal,tm',zm',nx',k1,k4,k5,k6⟩
   | false =>
    obtain⟨tm',zm',nx',k1,k4,k5,k6⟩:=Zz ih hE (ops:=ops) (N:=N) ops.toList 0 tm zm nx (by simp) hD (show zeP (Z6 (run P Gl.G ct u n) P ct) P Gl.G ops.toList ops.toList tm zm nx (K .normal) from h) hkb
    refine⟨.normal,tm',zm',nx',k1,k4,k5,fun H C M a hH hz ht=>wp_region ?_⟩
    rw[List.range_eq_range',←Array.length_toList]
    exact k6 H C M a _ hH hz ht fun C' M' a' hf=>⟨rfl,C',M',rfl,hf⟩
  | seq x y =>
   intro tm zm nx K N h hO hkb
   simp only[cOk,Bool.and_eq_true] at hO
   refine WR.seq ((wr (K:=zjd (run P Gl.G ct u n) y K) h hO.1 hkb).mono fun e tm' zm' nx' hkb' hk=>?_)
   cases e with
   | normal=>exact wr hk hO.2 hkb'
   | _=>exact hk
  | cond c x y =>
   intro tm zm nx K N h hO hkb
   simp only[cOk,Bool.and_eq_true] at hO
   have h0:zcg Gl.G tm c (fun b tm=>@Bool.rec (fun _=>Prop) (run P Gl.G ct u n y tm zm nx K) (run P Gl.G ct u n x tm zm nx K) b):=h
   obtain⟨b,tm1,hb,hsm,h1⟩:=Js h0
   have hev:∀(C:Ctx) (M:Mem) (H:Nat) (a:Act),YR B H C M zm nx→YT C tm a N→a.eval c=.bool b:=fun C M H a hz ht=>by
    have:=ht.operand hz.sr.gl c
    rw[hb] at this
    exact this
   cases b with
   | true =>
    obtain⟨e,tm2,zm1,nx1,k1,k4,k5,k6⟩:=ih x tm1 zm nx K N h1 hO.1 hkb
    exact⟨e,tm2,zm1,nx1,k1,k4,k5,fun H C M a hH hz ht=>wp_cond_true (hev C M H a hz ht) (k6 H C M a hH hz (ht.same hsm))⟩
   | false =>
    obtain⟨e,tm2,zm1,nx1,k1,k4,k5,k6⟩:=ih y tm1 zm nx K N h1 hO.2 hkb
    exact⟨e,tm2,zm1,nx1,k1,k4,k5,fun H C M a hH hz ht=>wp_cond_false (hev C M H a hz ht) (k6 H C M a hH hz (ht.same hsm))⟩
  | block id x=>intro tm zm nx K N h hO hkb; exact WR.block (wr (K:=zaw id K) h hO hkb)
  | scope x=>intro tm zm nx K N h hO hkb; exact WR.scope (wr (K:=zax K) h hO hkb)
  | loop x =>
   intro tm zm nx K N h hO hkb
   obtain⟨e,tm',zm',nx',k,k1,k4,k5⟩:=Yg (c:=x) (n + 1) IH (show cOk N x=true from hO) tm zm nx h hkb
   exact⟨e,tm',zm',nx',k1,k4,k5.le,k5.runs⟩
  | _=>intro tm zm nx K N h; exact BadN.elim (n:=13) h
theorem WR.run (hE:Env P ct) {u:Bool}{n N:Nat}{c:Code}{tm:Tm}{zm:Zm}{nx:Nat}{K:K3}(h:run P Gl.G ct u n c tm zm nx K) (hO:cOk N c=true) (hkb:KB zm nx):WR P B N c tm zm nx K:=znt hE u n _ _ _ _ _ _ h hO hkb
end
end
end Go.Y
namespace Go.Y
open Go.Ab Go.RowKit
noncomputable section
variable [Gl]
def wkV (n:Nat) (v w:V):Prop:=match w with
 | .unk=>True
 | w=>v.le w∧v.bel n
def wkB (n:Nat) (b:Option Blk) (c:Blk):Prop:=match c.k with
 | .dead=>∃ x,b=some x
 | .lp ..=>False
 | k=>∃ x,b=some x∧x.k=k∧x.sh=c.sh∧x.v.le c.v∧x.v.bel n
def WkT (n:Nat) (tm tm1:Tm):Prop:=∀ t,wkV n (tv tm t) (tv tm1 t)
def WkZ (n:Nat) (zm zm1:Zm):Prop:=∀ id c,gm zm1 id=some c→id < n∧wkB n (gm zm id) c
def ye (C:Ctx) (n H:Nat):Ctx:={ C with al:=fun id=>C.al id∧(id < n∨H≤id) }
omit [Gl] in
theorem R.cutLow {C:Ctx}{n H:Nat}(v:V) {m:Ab.M}(hb:v.bel n) (h:R C v m):R (ye C n H) v m:=by
 have h1:=R.cut v hb h
 refine R.keep (C:=C.cut n) ?_ _ _ h1
 exact⟨fun id hid=>⟨hid.1,.inl hid.2⟩,fun _ _=>rfl,fun _ _=>rfl,fun _ _ h=>h,fun _ _ _=>rfl⟩
omit [Gl] in
theorem R.two {C0 C:Ctx}{n H:Nat}(h0:∀ id,C0.al id→id < n∨H≤id) (v:V):∀ {m0 m:Ab.M},R C0 v m0→R C v m→R (ye C n H) v m:=by
 have aln:∀ {v:V}{id:Nat}{m0:Ab.M},(∃ p s,v=.ptr id p s)∨(∃ e k,v=.row id e k)∨(∃ p e off len cap,v=.sl id p e off len cap)→R C0 v m0→id < n∨H≤id:=by
  rintro v id m0 (⟨p,s,rfl⟩ | ⟨e,k,rfl⟩ | ⟨p,e,off,len,cap,rfl⟩) h
  ·exact h0 _ h.1
  ·exact h0 _ h.1
  ·exact h0 _ h.1
 have purk:∀ {v:V}{m:Ab.M},R C.pur v m→R (ye C n H) v m:=fun h=>R.keep (C:=C.pur) (C':=ye C n H) ⟨fun _ h=>h.elim,fun _ h=>h.elim,fun _ h=>h.elim,fun _ _ h=>h,fun _ _ _=>rfl⟩ _ _ h
 induction v with
 | ptr id p s=>intro m0 m h h'; exact⟨⟨h'.1,aln (.inl ⟨_,_,rfl⟩) h⟩,h'.2⟩
 | row id e k=>intro m0 m h h'; exact⟨⟨h'.1,aln (.inr (.inl ⟨_,_,rfl⟩)) h⟩,h'.2⟩
 | yld id=>intro m0 m h h'; exact⟨⟨h'.1,h0 _ h.1⟩,h'.2⟩
 | sl id p e off len cap=>intro m0 m h h'; exact⟨⟨h'.1,aln (.inr (.inr ⟨_,_,_,_,_,rfl⟩)) h⟩,h'.2⟩
 | cons x t ih1 ih2 =>
  intro m0 m h h'
  have hx:(∃ q,R C0 x q)∧∃ q,R C0 t q:=by
   cases m0 with
   | cel s g off=>obtain⟨a,b,h1,h2,h3⟩:=h; exact⟨⟨_,h2⟩,⟨_,h3⟩⟩
   | val v=>obtain⟨cs,a,b,h1,h2,h3,h4⟩:=h; exact⟨⟨_,h3⟩,⟨_,h4⟩⟩
   | list l=>obtain⟨y,ys,h1,h2,h3⟩:=h; exact⟨⟨_,h2⟩,⟨_,h3⟩⟩
  obtain⟨⟨q1,k1⟩,⟨q2,k2⟩⟩:=hx
  cases m with
  | cel s g off=>obtain⟨a,b,h1,h2,h3⟩:=h'; exact⟨a,b,h1,ih1 k1 h2,ih2 k2 h3⟩
  | val v=>obtain⟨cs,a,b,h1,h2,h3,h4⟩:=h'; exact⟨cs,a,b,h1,h2,ih1 k1 h3,ih2 k2 h4⟩
  | list l=>obtain⟨y,ys,h1,h2,h3⟩:=h'; exact⟨y,ys,h1,ih1 k1 h2,ih2 k2 h3⟩
 | arr k f ih =>
  intro m0 m h h'
  have hx:∀ i,i < k→∃ q,R C0 (f i) q:=by
   intro i hi
   cases m0 with
   | cel s g off=>obtain⟨e,h1,h2⟩:=h; exact⟨_,h2 i hi⟩
   | val v=>obtain⟨cs,e,h1,h2,h3⟩:=h; exact⟨_,h3 i hi⟩
   | list l=>exact h.elim
  cases m with
  | cel s g off=>obtain⟨e,h1,h2⟩:=h'; exact⟨e,h1,fun i hi=>by obtain⟨q,k1⟩:=hx i hi; exact ih i k1 (h2 i hi)⟩
  | val v=>obtain⟨cs,e,h1,h2,h3⟩:=h'; exact⟨cs,e,h1,h2,fun i hi=>by obtain⟨q,k1⟩:=hx i hi; exact ih i k1 (h3 i hi)⟩
  | list l=>exact h'
 | fn f c ih =>
  intro m0 m h h'
  obtain⟨_,_,k1,_⟩:=h
  obtain⟨cs,h1,h2,h3⟩:=h'
  exact⟨cs,h1,ih k1 h2,h3⟩
 | tup l ih =>
  intro m0 m h h'
  have hx:∃ q,R C0 l q:=by
   cases m0 with
   | val v=>obtain⟨cs,h1,h2⟩:=h; exact⟨_,h2⟩
   | cel=>exact h.elim
   | list=>exact h.elim
  obtain⟨q,k1⟩:=hx
  cases m with
  | val v=>obtain⟨cs,h1,h2⟩:=h'; exact⟨cs,h1,ih k1 h2⟩
  | cel=>exact h'
  | list=>exact h'
 | _=>intro m0 m _ h'; exact purk (R.pure_of _ rfl h')
omit [Gl] in
theorem zse {C:Ctx}{n H:Nat}{v w:V}{x:Value}(h:wkV n v w) (hr:R C v (.val x)):R (ye C n H) w (.val x):=by
 unfold wkV at h
 split at h
 ·trivial
 ·exact R.le v h.1 (R.cutLow v h.2 hr)
omit [Gl] in
theorem BR.mk {B:Nat}{C:Ctx}{n H:Nat}{id:Nat}{b c:Blk}(h:BR B C id b) (hk:b.k=c.k) (hs:b.sh=c.sh) (hv:(∀ k ps x y,c.k≠.lp k ps x y)→∀ m,R C b.v m→R (ye C n H) c.v m) (hl:∀ k ps x y,c.k=.lp k ps x y→LoopR B C id k ps x y b.v→LoopR B (ye C n H) id k ps x y c.v):BR B (ye C n H) id c:=by
 unfold BR at h ⊢
 rw[hk] at h
 cases hkd:c.k<;>simp only[hkd] at h ⊢
 ·obtain⟨g,cur,e,h1,h2,h3,h4,h5,h6,hT⟩:=h
  rw[hs] at h4 h5 h6
  exact⟨g,cur,e,h1,h2,h3,h4,h5,hv (by simp [hkd]) _ h6,hT⟩
 ·obtain⟨n1,s,cells,h1,h2,h3,h4⟩:=h
  rw[hs] at h1 h2 h4
  exact⟨n1,s,cells,h1,h2,h3,hv (by simp [hkd]) _ h4⟩
 ·exact hl _ _ _ _ hkd h
 ·obtain⟨g,es,clk,h1,h2,h3,h4⟩:=h
  exact⟨g,es,clk,h1,h2,h3,hv (by simp [hkd]) _ h4⟩
omit [Gl] in
theorem LoopR.two {B:Nat}{C0 C:Ctx}{n H id m:Nat}{ps:Array Tmp}{a b:Code}{v:V}(hold:∀ id,C0.al id→id < n∨H≤id) (h0:LoopR B C0 id m ps a b v) (h:LoopR B C id m ps a b v):LoopR B (ye C n H) id m ps a b v:=by
 rcases h with ⟨l,r,st,n1,τ,h1,h2,h3,h4,h7,h8,k9,h10⟩ | h
 ·rcases h0 with ⟨_,r0,st0,n0,τ0,_,_,_,_,e0,_,h9,_⟩ | ⟨e0,_⟩
  ·rw[e0] at h7
   injection h7 with q1 q2
   injection q2 with q2 q3
   subst q1; subst q2; subst q3
   exact .inl ⟨l,r,_,_,_,h1,h2,h3,h4,e0,h8,fun t=>R.two hold _ (h9 t) (k9 t),h10⟩
  ·rw[e0] at h7; cases h7
 ·exact .inr h
section
variable {P:Program}{ct:yf}{B N:Nat}
theorem Jz {H nx0 nx1:Nat}{C C1:Ctx}{M M1:Mem}{zm0 zm1 zm2:Zm}{tm1 tm2:Tm}{a:Act}(hgn:∀ g,xy (Gl.G g)=true) (hH:nx1≤H) (h0:YR B H C M zm0 nx0) (hkb0:KB zm0 nx0) (h1:YR B H C1 M1 zm1 nx1) (ht:YT C1 tm1 a N) (hc:YC B H C M zm0 nx0 C1 M1 zm1 nx1)
  (hwt:WkT nx0 tm1 tm2) (hwz:WkZ nx0 zm1 zm2) :
  ∃ C2 M2,C2.w=C1.w∧YR B H C2 M2 zm2 nx0∧YT C2 tm2 a N∧YC B H C M zm0 nx0 C2 M2 zm2 nx0:=by
 have hold:∀ id,C.al id→id < nx0∨H≤id:=fun id hid=>by
  rcases Nat.lt_or_ge id nx0 with h | h
  ·exact .inl h
  ·rcases Nat.lt_or_ge id H with h' | h'
   ·exact absurd hid (h0.al id h h')
   ·exact .inr h'
 let M2:Mem:=fun id=>match gm zm2 id with
  | some c=>some c
  | none=>if (id < nx0∨H≤id)∧gm zm0 id=none then M1 id else none
 have hM2:∀ id c,M2 id=some c→(gm zm2 id=some c∧id < nx0∧wkB nx0 (gm zm1 id) c)∨(M1 id=some c∧M id=some c∧(id < nx0∨H≤id)):=by
  intro id c h
  simp only[M2] at h
  split at h
  ·rename_i c' hc'
   cases h
   obtain⟨q1,q2⟩:=hwz id c hc'
   exact .inl ⟨hc',q1,q2⟩
  ·split at h
   ·rename_i hn
    have:=(hc.fr id hn.1 hn.2).1
    exact .inr ⟨h,by rw[←this]; exact h,hn.1⟩
   ·cases h
 have hsome:∀ id c,M2 id=some c→∃ b,M1 id=some b∧(c.live=true→b.live=true):=by
  intro id c h
  rcases hM2 id c h with ⟨_,_,h3⟩ | ⟨h3,_⟩
  ·unfold wkB at h3
   split at h3
   ·rename_i hk
    obtain⟨x,hx⟩:=h3
    exact⟨x,h1.sub _ _ hx,fun ha=>by unfold Blk.live at ha; rw[hk] at ha; cases ha⟩
   ·exact h3.elim
   ·obtain⟨x,hx,hk,_⟩:=h3
    exact⟨x,h1.sub _ _ hx,fun ha=>by unfold Blk.live at ha ⊢; rw[hk]; exact ha⟩
  ·exact⟨c,h3,fun h=>h⟩
 have hkeep:Keep C (ye C1 nx0 H):=⟨fun id hid=>⟨hc.kp.al id hid,hold id hid⟩,hc.kp.sv,hc.kp.shp,hc.kp.ok,hc.kp.heap⟩
 refine⟨ye C1 nx0 H,M2,rfl,⟨⟨h1.sr.base,h1.sr.okLt,?_,?_,?_,?_,fun g=>R.keep (C:=C1.pur) (C':=ye C1 nx0 H) ⟨fun _ h=>h.elim,fun _ h=>h.elim,fun _ h=>h.elim,fun _ _ h=>h,fun _ _ _=>rfl⟩ _ _ (R.pure_of _ (hgn g) (h1.sr.gl g))⟩,?_,?_⟩,⟨fun t=>zse (hwt t) (ht.tv t),ht.size,ht.defers⟩,⟨⟨hkeep,hc.kp.below,hc.kp.okn⟩,?_,?_⟩⟩
 ·intro id c h
  obtain⟨b,hb,_⟩:=hsome id c h
  refine⟨h1.sr.al id b hb,?_⟩
  rcases hM2 id c h with ⟨_,h3,_⟩ | ⟨_,_,h3⟩
  ·exact .inl h3
  ·exact h3
 ·intro id c h
  rcases hM2 id c h with ⟨_,_,h3⟩ | ⟨h3,h4,_⟩
  ·unfold wkB at h3
   split at h3
   ·rename_i hk
    unfold BR; rw[hk]; trivial
   ·exact h3.elim
   ·rename_i k hk hk2
    obtain⟨x,hx,q1,q2,q3,q4⟩:=h3
    exact BR.mk (h1.sr.mem id x (h1.sub _ _ hx)) q1 q2 (fun _ m hr=>R.le _ q3 (R.cutLow _ q4 hr)) fun k ps x y e=>absurd e (hk2 k ps x y)
  ·by_cases hd:c.k=.dead
   ·unfold BR; rw[hd]; trivial
   have hb:=h0.sr.mem id c h4
   unfold BR at hb
   refine BR.mk (h1.sr.mem id c h3) rfl rfl (fun hnl m hr=>?_) fun k ps x y e hl=>?_
   ·cases hkd:c.k<;>simp only[hkd] at hb
    ·obtain⟨g,cur,e,_,_,_,_,_,h6,_⟩:=hb; exact R.two hold _ h6 hr
    ·obtain⟨n1,s,cells,_,_,_,h6⟩:=hb; exact R.two hold _ h6 hr
    ·exact absurd hkd hd
    ·exact absurd hkd (hnl _ _ _ _)
    ·obtain⟨g,es,clk,_,_,_,h6⟩:=hb; exact R.two hold _ h6 hr
   ·rw[e] at hb; exact LoopR.two hold hb hl
 ·intro id id' c c' b q1 q2 q3 q4 q5 q6
  obtain⟨b1,p1,p2⟩:=hsome id c q1
  obtain⟨b2,p3,p4⟩:=hsome id' c' q3
  exact h1.sr.sep id id' b1 b2 b p1 (p2 q2) p3 (p4 q4) q5 q6
 ·intro id c b q1 q2 q3 u
  obtain⟨b1,p1,p2⟩:=hsome id c q1
  exact h1.sr.own id b1 b p1 (p2 q2) q3 u
 ·intro id c h
  show M2 id=some c
  simp only[M2,h]
 ·intro id q1 q2 q3
  rcases q3.2 with h | h
  ·omega
  ·omega
 ·intro id hid
  rcases hc.al id hid.1 with h | h
  ·exact .inl h
  ·rcases hid.2 with h' | h'
   ·omega
   ·omega
 ·intro id hid hn
  obtain⟨q1,q2⟩:=hc.fr id hid hn
  have h3:gm zm2 id=none:=by
   cases hz:gm zm2 id with
   | none=>rfl
   | some c =>
    obtain⟨_,h4⟩:=hwz id c hz
    unfold wkB at h4
    split at h4
    ·obtain⟨x,hx⟩:=h4; rw[q2] at hx; cases hx
    ·exact h4.elim
    ·obtain⟨x,hx,_⟩:=h4; rw[q2] at hx; cases hx
  refine⟨?_,h3⟩
  show M2 id=M id
  simp only[M2,h3]
  rw[if_pos ⟨hid,hn⟩,q1]
inductive LoopWk (P:Program) (B:Nat) (c:Code) (N nx0 nb:Nat) (e:Exit) (tm':Tm) (zm':Zm):Nat→Tm→Zm→Prop where
 | out {k:Nat}{tm:Tm}{zm:Zm}{nx1:Nat}(h:VW P B c tm zm nx0 N e tm' zm' nx1) (he:e≠.normal) (hle:nx0≤nx1) (hb:nx1≤nb):LoopWk P B c N nx0 nb e tm' zm' (k + 1) tm zm
 | round {k:Nat}{tm tm1 tm2:Tm}{zm zm1 zm2:Zm}{nx1:Nat}(h:VW P B c tm zm nx0 N .normal tm1 zm1 nx1) (hle:nx0≤nx1) (hb:nx1≤nb) (hwt:WkT nx0 tm1 tm2) (hwz:WkZ nx0 zm1 zm2) (h2:LoopWk P B c N nx0 nb e tm' zm' k tm2 zm2):LoopWk P B c N nx0 nb e tm' zm' (k + 1) tm zm
theorem YR.raise {H nx nb:Nat}{C:Ctx}{M:Mem}{zm:Zm}(h:YR B H C M zm nx) (hle:nx≤nb):YR B H C M zm nb:=⟨h.sr,h.sub,fun id h1 h2=>h.al id (by omega) h2⟩
omit [Gl] in
theorem YC.raise {H nx nx' nb:Nat}{C C':Ctx}{M M':Mem}{zm zm':Zm}(h:YC B H C M zm nx C' M' zm' nx') (hle:nx'≤nb):YC B H C M zm nx C' M' zm' nb :=
 ⟨h.kp,fun id hid=>(h.al id hid).imp (fun h=>h) fun h=>⟨h.1,by omega⟩,h.fr⟩
omit [Gl] in
theorem WkZ.kb {n:Nat}{zm zm1:Zm}(h:WkZ n zm zm1):KB zm1 n:=fun id hid=>by
 cases hz:gm zm1 id with
 | none=>rfl
 | some c=>have:=(h id c hz).1; omega
theorem LoopWk.runs (hgn:∀ g,xy (Gl.G g)=true) {c:Code}{nx0 nb k:Nat}{e:Exit}{tm tm':Tm}{zm zm':Zm}(h:LoopWk P B c N nx0 nb e tm' zm' k tm zm) (hkb:KB zm nx0):VW P B (.loop c) tm zm nx0 N e tm' zm' nb:=by
 intro H C M a hH hz ht
 refine wp_loop_ghost (fun n a w=>∃ C' M' tm1 zm1,C'.w=w∧YR B H C' M' zm1 nx0∧YT C' tm1 a N∧YC B H C M zm nx0 C' M' zm1 nx0∧LoopWk P B c N nx0 nb e tm' zm' n tm1 zm1) k ⟨C,M,tm,zm,rfl,hz,ht,YC.refl C M zm nx0,h⟩ ?_
 rintro n a w ⟨C1,M1,tm1,zm1,rfl,h1,h2,h3,h5⟩
 cases h5 with
 | @out _ _ _ nx1 hr he hle hb =>
  refine wp_mono (hr H C1 M1 a (by omega) h1 h2) ?_
  rintro e' a' w' ⟨rfl,C2,M2,rfl,hf⟩
  have hq:zi4 B H C M zm nx0 N e' tm' zm' nb e' a' C2.w:=⟨rfl,C2,M2,rfl,hf.yr.raise hb,hf.yt,(h3.trans hf.yc (Nat.le_refl _) hle).raise hb⟩
  cases e' with
  | normal=>exact absurd rfl he
  | _=>exact hq
 | @round k _ tm2 tm3 _ zm2 zm3 nx1 hr hle hb hwt hwz h6 =>
  refine wp_mono (hr H C1 M1 a (by omega) h1 h2) ?_
  rintro e' a' w' ⟨rfl,C2,M2,rfl,hf⟩
  obtain⟨C3,M3,q1,q2,q3,q4⟩:=Jz hgn (by omega) hz hkb hf.yr hf.yt (h3.trans hf.yc (Nat.le_refl _) hle) hwt hwz
  exact⟨k,by omega,C3,M3,tm3,zm3,q1,q2,q3,q4,h6⟩
theorem WR.loop (hE:Env P ct) {c:Code}{nx0:Nat}(nb:Nat) {K:K3}(I:Nat→Tm→Zm→Prop)
  (step:∀ m tm zm,I m tm zm→KB zm nx0→WR P B N c tm zm nx0 (fun e tm' zm' nx'=>nx'≤nb∧(e=.normal→∃ m' tm1 zm1,m' < m∧WkT nx0 tm' tm1∧WkZ nx0 zm' zm1∧I m' tm1 zm1)∧(e≠.normal→K e tm' zm' nb))) :
  ∀(m:Nat) (tm:Tm) (zm:Zm),I m tm zm→KB zm nx0→WR P B N (.loop c) tm zm nx0 K:=by
 have key:∀(m:Nat) (tm:Tm) (zm:Zm),I m tm zm→KB zm nx0→∃ e tm' zm' k,K e tm' zm' nb∧KB zm' nb∧nx0≤nb∧LoopWk P B c N nx0 nb e tm' zm' k tm zm:=by
  intro m
  induction m using Nat.strongRecOn with
  | _ m IH =>
  intro tm zm hI hkb
  obtain⟨e,tm1,zm1,nx1,⟨hb,hn,hx⟩,k2,k3,k4⟩:=step m tm zm hI hkb
  by_cases he:e=.normal
  ·subst he
   obtain⟨m',tm2,zm2,hlt,hwt,hwz,hI'⟩:=hn rfl
   obtain⟨e,tm',zm',k,q1,q2,q3,q4⟩:=IH m' hlt tm2 zm2 hI' hwz.kb
   exact⟨e,tm',zm',k + 1,q1,q2,q3,.round k4 k3 hb hwt hwz q4⟩
  ·exact⟨e,tm1,zm1,1,hx he,fun id hid=>k2 id (by omega),by omega,.out k4 he k3 hb⟩
 intro m tm zm hI hkb
 obtain⟨e,tm',zm',k,q1,q2,q3,q4⟩:=key m tm zm hI hkb
 exact⟨e,tm',zm',nb,q1,q2,q3,q4.runs hE.gn hkb⟩
def mkT:List Nat→List V→Tm
 | t::lt,v::vs=>set v (enc t) (mkT lt vs)
 | _,_=>.e
def mkZ:List Nat→List Blk→Zm
 | i::li,b::bs=>set (some b) (enc i) (mkZ li bs)
 | _,_=>.e
def zng (n:Nat):List V→List V→Prop
 | v::vs,w::ws=>wkV n v w∧zng n vs ws
 | _,[]=>True
 | [],_::_=>False
def znh (n:Nat):List Nat→List (Option Blk)→List Blk→Prop
 | i::li,v::vs,w::ws=>(i < n∧wkB n v w)∧znh n li vs ws
 | _,_,[]=>True
 | _,_,_::_=>False
omit [Gl] in
theorem zcf {n:Nat}{v:V}:wkV n v .unk:=trivial
omit [Gl] in
theorem zsf (t:Nat):tv .e t=.unk:=wQ _ _
omit [Gl] in
theorem zeM {n:Nat}{tm:Tm}:∀ {lt:List Nat}{vs:List V},zng n (lt.map (tv tm)) vs→WkT n tm (mkT lt vs)
 | [],vs,_=>fun t=>by cases vs<;>(show wkV n _ (tv .e t); rw[zsf]; exact zcf)
 | t::lt,[],_=>fun t=>by show wkV n _ (tv .e t); rw[zsf]; exact zcf
 | t::lt,v::vs,h=>fun q=>by
  show wkV n _ (tv (set v (enc t) (mkT lt vs)) q)
  rw[w8]
  split
  ·rename_i e; subst e; exact h.1
  ·exact zeM (lt:=lt) (vs:=vs) h.2 q
omit [Gl] in
theorem zeN {n:Nat}{zm:Zm}:∀ {li:List Nat}{bs:List Blk},znh n li (li.map (gm zm)) bs→WkZ n zm (mkZ li bs)
 | [],bs,_=>fun t c h=>by cases bs<;>(have h:gm .e t=some c:=h; rw[zeG] at h; cases h)
 | i::li,[],_=>fun t c h=>by have h:gm .e t=some c:=h; rw[zeG] at h; cases h
 | i::li,b::bs,h=>fun q c hq=>by
  have h1:gm (set (some b) (enc i) (mkZ li bs)) q=some c:=hq
  clear hq
  rw[zam] at h1
  split at h1
  ·rename_i e; subst e; cases h1; exact h.1
  ·exact zeN (li:=li) (bs:=bs) h.2 q c h1
def zjb (lt li:List Nat) (Q:Exit→List V→List (Option Blk)→Nat→Prop):K3:=fun e tm zm nx=>Q e (lt.map (tv tm)) (li.map (gm zm)) nx
end
end
end Go.Y
namespace Go.Y
open Go.Ab Go.RowKit
noncomputable section
variable [Gl]
section
variable {P:Program}{ct:yf}{B N:Nat}
section
variable {tm tm1:Tm}{zm zm1:Zm}{nx:Nat}{K:K3}{c:Code}
theorem WR.weak (hE:Env P ct) (hwt:WkT nx tm tm1) (hwz:WkZ nx zm zm1) (hkb:KB zm nx) (h:WR P B N c tm1 zm1 nx K):WR P B N c tm zm nx K:=by
 obtain⟨e,tm',zm',nx',k1,k2,k3,k4⟩:=h
 refine⟨e,tm',zm',nx',k1,k2,k3,fun H C M a hH hz ht=>?_⟩
 obtain⟨C3,M3,q1,q2,q3,q4⟩:=Jz hE.gn (by omega) hz hkb hz ht (YC.refl C M zm nx) hwt hwz
 have h5:=k4 H C3 M3 a hH q2 q3
 rw[q1] at h5
 refine wp_mono h5 ?_
 rintro e' a' w' ⟨rfl,C',M',rfl,hf⟩
 exact⟨rfl,C',M',rfl,hf.yr,hf.yt,q4.trans hf.yc (Nat.le_refl _) k3⟩
theorem WR.go (hE:Env P ct) {u:Bool}{n nt:Nat}(hN:nt≤N) (hO:cOk nt c=true) (hkb:KB zm nx) {Q:K3}(h:Go.Y.run P Gl.G ct u n c tm zm nx Q) (hQ:∀ e tm zm nx,KB zm nx→Q e tm zm nx→K e tm zm nx):WR P B N c tm zm nx K :=
 (WR.run hE h (xJ hN hO) hkb).mono hQ
end
end
end
end Go.Y
namespace Go.Y
open Go.Ab Go.RowKit
noncomputable section
variable [Gl]
abbrev Q4:=Exit→List V→List (Option Blk)→Nat→Prop
section
variable {P:Program}{ct:yf}{B N nt nx:Nat}{c c2:Code}{tm:Tm}{zm:Zm}{K:K3}{u:Bool}{fu:Nat}
theorem WR.piece (hE:Env P ct) (hN:nt≤N) (hO:cOk nt c=true) (hkb:KB zm nx) (lt li:List Nat) {e:Exit}{vs0:List V}{bs0:List (Option Blk)}{nx':Nat}(vs:List V) (bs:List Blk)
  (h:∀ Q:Q4,Go.Y.run P Gl.G ct u fu c tm zm nx (zjb lt li Q)=Q e vs0 bs0 nx')
  (hK:∀ tm' zm',lt.map (tv tm')=vs0→li.map (gm zm')=bs0→KB zm' nx'→K e tm' zm' nx'):WR P B N c tm zm nx K:=by
 have h1:Go.Y.run P Gl.G ct u fu c tm zm nx (zjb lt li fun e2 v b n=>e2=e∧v=vs0∧b=bs0∧n=nx'):=by rw[h]; exact⟨rfl,rfl,rfl,rfl⟩
 refine WR.go hE hN hO hkb h1 ?_
 rintro e2 tm2 zm2 nx2 hk ⟨rfl,h2,h3,rfl⟩
 exact hK tm2 zm2 h2 h3 hk
theorem WR.then (hE:Env P ct) (hN:nt≤N) (hO:cOk nt c=true) (hkb:KB zm nx) (lt li:List Nat) {vs0:List V}{bs0:List (Option Blk)}{nx':Nat}(vs:List V) (bs:List Blk)
  (h:∀ Q:Q4,Go.Y.run P Gl.G ct u fu c tm zm nx (zjb lt li Q)=Q .normal vs0 bs0 nx') (hv:zng nx' vs0 vs) (hb:znh nx' li bs0 bs)
  (hK:KB (mkZ li bs) nx'→WR P B N c2 (mkT lt vs) (mkZ li bs) nx' K):WR P B N c tm zm nx (zlp (fun tm zm nx=>WR P B N c2 tm zm nx K) K):=by
 refine WR.piece hE hN hO hkb lt li vs bs h fun tm' zm' h1 h2 hk=>?_
 have hz:WkZ nx' zm' (mkZ li bs):=zeN (by rw[h2]; exact hb)
 exact WR.weak hE (zeM (by rw[h1]; exact hv)) hz hk (hK hz.kb)
end
end
end Go.Y
