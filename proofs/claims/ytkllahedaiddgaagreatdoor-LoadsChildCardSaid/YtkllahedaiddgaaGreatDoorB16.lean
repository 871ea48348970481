/- The run is right: names replaced, contracts, temporaries, results. No condition. -/
import Derived.Test.YtkllahedaiddgaaGreatDoorB13
import Derived.Laws.IdiomStrings
import Derived.Laws.BytesArg
import Derived.Laws.Strings
import Derived.Laws.Small
import Derived.Laws.Pointers
set_option linter.unusedSimpArgs false
set_option linter.unusedVariables false
namespace Go.Ab
open Go.RowKit
variable [Gl]
section
variable {P:Program}{B:Nat}{o:Oper}{ρ:Operand→V}{m:Mem}{n:Nat}
def BD (x:Option Value) (d v:Int):Prop:=(x=none∧v=d)∨∃ k,x=some (.int k v)
def MD (x:Option Value) (v:Option Int):Prop:=(x=none∧v=none)∨∃ k m,x=some (.int k m)∧v=some m
omit [Gl] in
theorem yR {s:Bool}{len cap:Nat}{lo hi mx:Option Value}{l h:Int}{mv:Option Int}(h1:BD lo 0 l) (h2:BD hi len h) (h3:MD mx mv) (hx:hi=none→mx=none)
  (a0:0≤l) (a1:l≤h) (a2:h≤mv.getD cap) (a3:mv.getD cap≤cap) (w:World):(Instr.sliceBounds s len cap lo hi mx).run P w=.ok (l.toNat,h.toNat,(mv.getD cap).toNat) w:=by
 have e1:(h.toNat:Int)=h:=Int.toNat_of_nonneg (by omega)
 rcases h3 with ⟨rfl,rfl⟩ | ⟨km,m,rfl,rfl⟩
 ·simp only[Option.getD_none] at a2 a3 ⊢
  rcases h1 with ⟨rfl,rfl⟩ | ⟨k1,rfl⟩<;>rcases h2 with ⟨rfl,rfl⟩ | ⟨k2,rfl⟩<;>simp (disch:=omega) [Instr.sliceBounds,run_sliceBound,e1]
 ·simp only[Option.getD_some] at a2 a3 ⊢
  have e2:(m.toNat:Int)=m:=Int.toNat_of_nonneg (by omega)
  rcases h2 with ⟨rfl,rfl⟩ | ⟨k2,rfl⟩
  ·simp at hx
  rcases h1 with ⟨rfl,rfl⟩ | ⟨k1,rfl⟩<;>simp (disch:=omega) [Instr.sliceBounds,run_sliceBound,e1,e2]
omit [Gl] in
theorem vB {t el:TypeId}{a:Option Addr}{len c:Nat}{i:TypeInfo}(hu:P.underlying t=some (.slice el)) (hi:P.info? el=some i) {lo hi' mx:Option Value}{l h:Int}{mv:Option Int}
  (h1:BD lo 0 l) (h2:BD hi' len h) (h3:MD mx mv) (hx:hi'=none→mx=none) (a0:0≤l) (a1:l≤h) (a2:h≤mv.getD c) (a3:mv.getD c≤c) (w:World) :
  (Instr.sliceAt t (.slice a len c) lo hi' mx).run P w=.ok (sliced a l.toNat h.toNat (mv.getD c).toNat i.size) w:=by
 have he:P.elem t=el:=by unfold Program.elem; rw[hu]
 have hu':P.underlying t=some (.slice (P.elem t)):=by rw[he]; exact hu
 rw[run_sliceAt_slice w t _ _ _ _ hu',run_slice_any w t a len c hu',yR h1 h2 h3 hx a0 a1 a2 a3 w]
 simp only[Result.andThen_ok,he,zN hi]
def V.mxb (x:Option V):Option (Option Int):=match x with
 | none=>some none
 | some (.int _ n)=>some (some n)
 | _=>none
omit [Gl] in
theorem zld {C:Ctx}{ρc:Operand→Value}{x:Option Operand}{mv:Option Int}(h:V.mxb (x.map ρ)=some mv) (hr:∀ y,x=some y→R C (ρ y) (.val (ρc y))):MD (x.map ρc) mv:=by
 cases x with
 | none=>simp only[Option.map_none,V.mxb,Option.some.injEq] at h; exact .inl ⟨rfl,h.symm⟩
 | some y =>
  have h1:=hr y rfl
  simp only[Option.map_some] at h ⊢
  cases hy:ρ y<;>rw[hy] at h<;>simp only[V.mxb,Option.some.injEq,reduceCtorEq] at h
  rename_i k n
  subst h
  rw[hy] at h1
  have h2:ρc y=.int k n:=h1
  exact .inr ⟨k,n,by rw[h2],rfl⟩
structure Bds (ρ:Operand→V) (lo hi mx:Option Operand) (len:Nat) (l h:Int) (mv:Option Int):Prop where
 blo:V.bnd 0 (lo.map ρ)=some l
 bhi:V.bnd len (hi.map ρ)=some h
 bmx:V.mxb (mx.map ρ)=some mv
 two:hi=none→mx=none
 l0:0≤l
 lh:l≤h
 hn:h≤len
 hm:∀ m,mv=some m→h≤m∧m≤len
omit [Gl] in
theorem Bds.rel {C:Ctx}{M:Mem}{ρc:Operand→Value}{t:TypeId}{x:Operand}{lo hi mx:Option Operand}{len:Nat}{l h:Int}{mv:Option Int}(b:Bds ρ lo hi mx len l h mv) (ho:o.op=.slice t x lo hi mx)
  (hrel:∀ x∈o.op.operands.toList,R C (ρ x) (.val (ρc x))):BD (lo.map ρc) 0 l∧BD (hi.map ρc) len h∧MD (mx.map ρc) mv∧(hi.map ρc=none→mx.map ρc=none)∧∀ c:Nat,len≤c→h≤mv.getD c∧mv.getD c≤c:=by
 refine⟨zdf (C:=C) (M:=M) (ρc:=ρc) b.blo (fun y hy=>hrel y (by subst hy; simp [ho,Op.operands])),zdf (C:=C) (M:=M) (ρc:=ρc) b.bhi (fun y hy=>hrel y (by subst hy; simp [ho,Op.operands])),
  zld b.bmx (fun y hy=>hrel y (by subst hy; simp [ho,Op.operands])),?_,?_⟩
 ·intro hh
  rw[Option.map_eq_none_iff] at hh ⊢
  exact b.two hh
 ·intro c hc
  have h1:=b.hn
  cases mv with
  | none=>simp only[Option.getD_none]; omega
  | some m=>have:=b.hm m rfl; simp only[Option.getD_some]; omega
def yu (clip:Bool) (len:Nat) (h:Int) (mv:Option Int):Bool:=match mv with
 | none=>clip&&decide (h=len)
 | some m=>decide (m=h)
theorem J1 {t el:TypeId}{x:Operand}{lo hi' mx:Option Operand}{u clip:Bool}{e:Shape}{len:Nat}{f:Nat→V}{i:TypeInfo}{l h:Int}{mv:Option Int}(ho:o.op=.slice t x lo hi' mx) (hx:ρ x=.ro u clip e len f)
  (hu:P.underlying t=some (.slice el)) (hi:P.info? el=some i) (hz:i.size=e.size) (hb:Bds ρ lo hi' mx len l h mv) :
  OpSem P B o ρ m n (zk (.ro u (yu clip len h mv) e (h.toNat - l.toNat) fun j=>f (l.toNat + j))) :=
 OpSem.pure fun C M ρc _ _ hrel=>by
  have h0:=hrel x (by simp [ho,Op.operands])
  rw[hx] at h0
  obtain⟨a,c,h1,h2,h3,h4⟩:=h0
  have h1':ρc x=.slice a len c:=h1
  obtain⟨q1,q2,q3,q4,q5⟩:=hb.rel (M:=M) ho hrel
  obtain⟨q5,q6⟩:=q5 c h2
  have hrun:=fun w=>vB (a:=a) (len:=len) (c:=c) hu hi q1 q2 q3 q4 hb.l0 hb.lh q5 q6 w
  have b0:=hb.l0
  have b1:=hb.lh
  have b2:=hb.hn
  refine⟨sliced a l.toNat h.toNat (mv.getD c).toNat i.size,by simp only[execOp,ho,h1']; simp only[Sem.run_bind,hrun,Result.andThen_ok]; rfl,_,(mv.getD c).toNat - l.toNat,rfl,by omega,?_,?_⟩
  ·intro hc
   unfold yu at hc
   cases mv with
   | none =>
    simp only[Bool.and_eq_true,decide_eq_true_eq] at hc
    have:=h3 hc.1
    simp only[Option.getD_none]
    omega
   | some m =>
    simp only[decide_eq_true_eq] at hc
    simp only[Option.getD_some]
    omega
  ·rcases h4 with h4 | ⟨b,o1,rfl,h5,h6⟩
   ·left; omega
   ·rcases Nat.lt_or_ge l.toNat h.toNat with hlt | hge
    ·refine .inr ⟨b,o1 + l.toNat * e.size,?_,h5,fun j hj=>?_⟩
     ·split
      ·omega
      ·simp [Addr.add_lit,hz]
     ·have:=h6 (l.toNat + j) (by omega)
      rw[Nat.add_mul,←Nat.add_assoc] at this
      exact this
    ·left; omega
theorem VM {t el:TypeId}{x:Operand}{lo hi' mx:Option Operand}{i:TypeInfo}{l h:Int}{mv:Option Int}(ho:o.op=.slice t x lo hi' mx) (hx:ρ x=.nils)
  (hu:P.underlying t=some (.slice el)) (hi:P.info? el=some i) (hb:Bds ρ lo hi' mx 0 l h mv):OpSem P B o ρ m n (zk .nils) :=
 OpSem.pure fun C M ρc _ _ hrel=>by
  have h0:=hrel x (by simp [ho,Op.operands])
  rw[hx] at h0
  have h1':ρc x=.slice none 0 0:=h0
  obtain⟨q1,q2,q3,q4,q5⟩:=hb.rel (M:=M) ho hrel
  obtain⟨q5,q6⟩:=q5 0 (Nat.le_refl _)
  have hrun:=fun w=>vB (a:=none) (len:=0) (c:=0) hu hi q1 q2 q3 q4 hb.l0 hb.lh q5 q6 w
  have b0:=hb.l0
  have b1:=hb.lh
  have b2:=hb.hn
  refine⟨.slice none 0 0,?_,rfl⟩
  simp only[execOp,ho,h1']
  simp only[Sem.run_bind,hrun,Result.andThen_ok,sliced]
  have e1:l.toNat=0:=by omega
  have e2:h.toNat=0:=by omega
  have e3:(mv.getD ((0:Nat):Int)).toNat=0:=by
   cases mv with
   | none=>rfl
   | some m =>
    have:=hb.hm m rfl
    simp only[Option.getD_some]
    omega
  simp only[e1,e2,e3]
  simp
def Xg (l:Nat) (cap:Option Nat) (mv:Option Int):Option Nat:=match mv with
 | none=>cap.map (· - l)
 | some m=>some (m.toNat - l)
theorem J2 {t el:TypeId}{x:Operand}{lo hi' mx:Option Operand}{id len:Nat}{e:Shape}{i:TypeInfo}{l h:Int}{mv:Option Int}{blk:Blk}(ho:o.op=.slice t x lo hi' mx) (hx:ρ x=.row id e len)
  (hm:m id=some blk) (hal:blk.alive=true) (hu:P.underlying t=some (.slice el)) (hi:P.info? el=some i) (hz:i.size=e.size) (hb:Bds ρ lo hi' mx len l h mv) :
  OpSem P B o ρ m n ⟨.sl id [] e l.toNat (h.toNat - l.toNat) (Xg l.toNat none mv),[],[],[id]⟩ :=
 OpSem.pure fun C M ρc hs hr hrel=>by
  have h0:=hrel x (by simp [ho,Op.operands])
  rw[hx] at h0
  obtain⟨hal',⟨a,c,h1⟩,h2,h3⟩:=h0
  have h1':ρc x=.slice a len c:=by rw[←h1]; exact h3
  have hM:M id=some blk:=by rw[hr id (by simp),hm]
  have hbr:=hs.mem id blk hM
  have hla:len≤c∧(0 < c→∃ g,a=some ⟨g,0,none⟩):=by
   unfold BR at hbr; unfold Blk.alive at hal
   cases hkd:blk.k<;>simp only[hkd] at hbr hal
   ·obtain⟨g,cur,e',h4,_⟩:=hbr
    rw[h1] at h4; cases h4
   ·obtain⟨n1,s1,cells,h4,h5,h6,_⟩:=hbr
    rcases h6.2 with ⟨h7,h8⟩ | ⟨g,cap,cur,hv,_,_,hnc,_⟩
    ·rw[h1] at h7; cases h7; exact⟨Nat.le_refl _,fun h=>absurd h (by omega)⟩
    ·rw[h1] at hv; cases hv; exact⟨hnc,fun _=>⟨g,rfl⟩⟩
   ·simp at hal
   ·simp at hal
   ·simp at hal
  obtain⟨hlc,hga⟩:=hla
  obtain⟨q1,q2,q3,q4,q5⟩:=hb.rel (M:=M) ho hrel
  obtain⟨q5,q6⟩:=q5 c hlc
  have hrun:=fun w=>vB (a:=a) (len:=len) (c:=c) hu hi q1 q2 q3 q4 hb.l0 hb.lh q5 q6 w
  have b0:=hb.l0
  have b1:=hb.lh
  have b2:=hb.hn
  refine⟨sliced a l.toNat h.toNat (mv.getD c).toNat i.size,by simp only[execOp,ho,h1']; simp only[Sem.run_bind,hrun,Result.andThen_ok]; rfl,hal',_,(mv.getD c).toNat - l.toNat,0,len,rfl,by omega,?_,by rw[h2]; simp [Shape.path],by omega,?_⟩
  ·intro k hk
   unfold Xg at hk
   cases mv with
   | none=>simp at hk
   | some m=>simp only[Option.some.injEq] at hk; subst hk; simp
  ·rcases Nat.lt_or_ge l.toNat (mv.getD c).toNat with hlt | hge
   ·obtain⟨g,rfl⟩:=hga (by omega)
    refine .inr ⟨g,by rw[h1]; rfl,?_⟩
    rw[if_neg (by omega)]
    simp [Addr.add_lit,hz]
   ·left; omega
theorem Ww {t el:TypeId}{x:Operand}{lo hi' mx:Option Operand}{id off len:Nat}{p:List Step}{cap:Option Nat}{e:Shape}{i:TypeInfo}{l h:Int}{mv:Option Int}(ho:o.op=.slice t x lo hi' mx) (hx:ρ x=.sl id p e off len cap)
  (hu:P.underlying t=some (.slice el)) (hi:P.info? el=some i) (hz:i.size=e.size) (hb:Bds ρ lo hi' mx len l h mv) :
  OpSem P B o ρ m n (zk (.sl id p e (off + l.toNat) (h.toNat - l.toNat) (Xg l.toNat cap mv))) :=
 OpSem.pure fun C M ρc hs hr hrel=>by
  have h0:=hrel x (by simp [ho,Op.operands])
  rw[hx] at h0
  obtain⟨hal,ad,c,o1,n1,h1,hlc,hcap,h5,h7,h4⟩:=h0
  have h1':ρc x=.slice ad len c:=h1
  obtain⟨q1,q2,q3,q4,q5⟩:=hb.rel (M:=M) ho hrel
  obtain⟨q5,q6⟩:=q5 c hlc
  have hrun:=fun w=>vB (a:=ad) (len:=len) (c:=c) hu hi q1 q2 q3 q4 hb.l0 hb.lh q5 q6 w
  have b0:=hb.l0
  have b1:=hb.lh
  have b2:=hb.hn
  refine⟨sliced ad l.toNat h.toNat (mv.getD c).toNat i.size,by simp only[execOp,ho,h1']; simp only[Sem.run_bind,hrun,Result.andThen_ok]; rfl,hal,_,(mv.getD c).toNat - l.toNat,o1,n1,rfl,by omega,?_,h5,by omega,?_⟩
  ·intro k hk
   unfold Xg at hk
   cases mv with
   | none =>
    rw[Option.map_eq_some_iff] at hk
    obtain⟨k',hk',rfl⟩:=hk
    rw[hcap k' hk']; simp
   | some m=>simp only[Option.some.injEq] at hk; subst hk; simp
  ·rcases Nat.lt_or_ge l.toNat (mv.getD c).toNat with hlt | hge
   ·rcases h4 with h4 | ⟨b,h8,rfl⟩
    ·omega
    refine .inr ⟨b,h8,?_⟩
    rw[if_neg (by omega)]
    simp [Addr.add_lit,hz,Nat.add_mul,Nat.add_assoc]
   ·left; omega
omit [Gl] in
theorem yv {t el:TypeId}{a:Addr}{N:Nat}{i:TypeInfo}(hu:P.underlying t=some (.array N el)) (hi:P.info? el=some i) {lo hi' mx:Option Value}{l h:Int}{mv:Option Int}
  (h1:BD lo 0 l) (h2:BD hi' N h) (h3:MD mx mv) (hx:hi'=none→mx=none) (a0:0≤l) (a1:l≤h) (a2:h≤mv.getD N) (a3:mv.getD N≤N) (w:World) :
  (Instr.sliceAt t (.pointer (some a)) lo hi' mx).run P w=.ok (.slice (some (if (mv.getD N).toNat=l.toNat then a else a.add (l.toNat * i.size))) (h.toNat - l.toNat) ((mv.getD N).toNat - l.toNat)) w:=by
 simp [Instr.sliceAt,run_underlying hu,Instr.sureAddr,yR h1 h2 h3 hx a0 a1 a2 a3 w,zN hi]
theorem J3 {t el:TypeId}{x:Operand}{lo hi' mx:Option Operand}{id N:Nat}{p:List Step}{e:Shape}{i:TypeInfo}{l h:Int}{mv:Option Int}(ho:o.op=.slice t x lo hi' mx) (hx:ρ x=.ptr id p (.arr N e))
  (hu:P.underlying t=some (.array N el)) (hi:P.info? el=some i) (hz:i.size=e.size) (hb:Bds ρ lo hi' mx N l h mv) :
  OpSem P B o ρ m n (zk (.sl id p e l.toNat (h.toNat - l.toNat) (Xg l.toNat (some N) mv))) :=
 OpSem.pure fun C M ρc hs hr hrel=>by
  have h0:=hrel x (by simp [ho,Op.operands])
  rw[hx] at h0
  obtain⟨hal,b,o1,h1,h2,h3⟩:=h0
  have h1':ρc x=.pointer (some ⟨b,o1,none⟩):=h3
  obtain⟨q1,q2,q3,q4,q5⟩:=hb.rel (M:=M) ho hrel
  obtain⟨q5,q6⟩:=q5 N (Nat.le_refl _)
  have hrun:=fun w=>yv (a:=⟨b,o1,none⟩) hu hi q1 q2 q3 q4 hb.l0 hb.lh q5 q6 w
  have b0:=hb.l0
  have b1:=hb.lh
  have b2:=hb.hn
  refine⟨_,by simp only[execOp,ho,h1']; simp only[Sem.run_bind,hrun,Result.andThen_ok]; rfl,hal,_,(mv.getD N).toNat - l.toNat,o1,N,rfl,by omega,?_,h2,by omega,?_⟩
  ·intro k hk
   unfold Xg at hk
   cases mv with
   | none=>simp only[Option.map_some,Option.some.injEq] at hk; subst hk; simp
   | some m=>simp only[Option.some.injEq] at hk; subst hk; simp
  ·rcases Nat.lt_or_ge l.toNat (mv.getD N).toNat with hlt | hge
   ·refine .inr ⟨b,h1,?_⟩
    rw[if_neg (by omega)]
    simp [Addr.add_lit,hz]
   ·left; omega
theorem J4 {t el:TypeId}{x:Operand}{lo hi' mx:Option Operand}{u:Bool}{N:Nat}{e:Shape}{f:Nat→V}{i:TypeInfo}{l h:Int}{mv:Option Int}(ho:o.op=.slice t x lo hi' mx) (hx:ρ x=.ref u (.arr N e) (.arr N f))
  (hu:P.underlying t=some (.array N el)) (hi:P.info? el=some i) (hz:i.size=e.size) (hb:Bds ρ lo hi' mx N l h mv) :
  OpSem P B o ρ m n (zk (.ro u (yu true N h mv) e (h.toNat - l.toNat) fun j=>f (l.toNat + j))) :=
 OpSem.pure fun C M ρc hs hr hrel=>by
  have h0:=hrel x (by simp [ho,Op.operands])
  rw[hx] at h0
  obtain⟨b,o1,h1,h2,h3⟩:=h0
  have h1':ρc x=.pointer (some ⟨b,o1,none⟩):=h1
  obtain⟨q1,q2,q3,q4,q5⟩:=hb.rel (M:=M) ho hrel
  obtain⟨q5,q6⟩:=q5 N (Nat.le_refl _)
  have hrun:=fun w=>yv (a:=⟨b,o1,none⟩) hu hi q1 q2 q3 q4 hb.l0 hb.lh q5 q6 w
  have b0:=hb.l0
  have b1:=hb.lh
  have b2:=hb.hn
  obtain⟨e',r1,r2⟩:=h3
  cases r1
  refine⟨_,by simp only[execOp,ho,h1']; simp only[Sem.run_bind,hrun,Result.andThen_ok]; rfl,_,(mv.getD N).toNat - l.toNat,rfl,by omega,?_,?_⟩
  ·intro hc
   unfold yu at hc
   cases mv with
   | none=>simp only[Bool.true_and,decide_eq_true_eq] at hc; simp only[Option.getD_none]; omega
   | some m=>simp only[decide_eq_true_eq] at hc; simp only[Option.getD_some]; omega
  ·rcases Nat.lt_or_ge l.toNat h.toNat with hlt | hge
   ·refine .inr ⟨b,o1 + l.toNat * e.size,?_,h2,fun j hj=>?_⟩
    ·rw[if_neg (by omega)]
     simp [Addr.add_lit,hz]
    ·have:=r2 (l.toNat + j) (by omega)
     rw[Nat.add_mul,←Nat.add_assoc] at this
     exact this
   ·left; omega
theorem J5 {t:TypeId}{x:Operand}{lo hi':Option Operand}{s:ByteArray}{l h:Int}(ho:o.op=.slice t x lo hi' none) (hx:ρ x=.str s)
  (hu:P.underlying t=some .string) (hb:Bds ρ lo hi' none s.size l h none):OpSem P B o ρ m n (zk (.str (s.extract l.toNat h.toNat))) :=
 OpSem.pure fun C M ρc hs hr hrel=>by
  have h0:=hrel x (by simp [ho,Op.operands])
  rw[hx] at h0
  have h1':ρc x=.string s:=h0
  obtain⟨q1,q2,q3,q4,q5⟩:=hb.rel (M:=M) ho hrel
  obtain⟨q5,q6⟩:=q5 s.size (Nat.le_refl _)
  have hrun:=fun w=>yR (P:=P) (s:=false) q1 q2 q3 q4 hb.l0 hb.lh q5 q6 w
  refine⟨.string (s.extract l.toNat h.toNat),?_,rfl⟩
  simp only[execOp,ho,h1',Option.map_none]
  simp only[Option.map_none] at hrun
  simp [run_sliceAt_string C.w t _ _ _ _ hu,Instr.slice,run_underlying hu,hrun]
def V.cap:V→Option Nat
 | .sl _ _ _ _ _ (some c)=>some c
 | .ro _ true _ len _=>some len
 | .nils=>some 0
 | _=>none
theorem zle {t e:TypeId}{x:Operand}{k:Nat}(ho:o.op=.call ⟨.builtin .cap,#[x],#[t]⟩) (hx:(ρ x).cap=some k) (hu:P.underlying t=some (.slice e)):OpSem P B o ρ m n (zk (.int .i64 k)) :=
 OpSem.pure fun C M ρc _ _ hrel=>by
  have h0:=hrel x (by simp [ho,Op.operands,Call.operands])
  have:∃ a l,ρc x=.slice a l k:=by
   cases hv:ρ x<;>rw[hv] at h0 hx<;>simp only[V.cap,reduceCtorEq] at hx
   ·rename_i id p e off len cap
    cases cap with
    | none=>simp at hx
    | some c =>
     simp only[Option.some.injEq] at hx; subst hx
     obtain⟨hal,ad,c',o1,n1,h1,hlc,hcap,_⟩:=h0
     rw[hcap c rfl] at h1
     exact⟨_,_,h1⟩
   ·simp only[Option.some.injEq] at hx; subst hx; exact⟨none,0,h0⟩
   ·rename_i u clip e len f
    cases clip with
    | false=>simp at hx
    | true =>
     simp only[Option.some.injEq] at hx; subst hx
     obtain⟨a,c,h1,h2,h3,_⟩:=h0
     rw[h3 rfl] at h1
     exact⟨_,_,h1⟩
  obtain⟨a,l,h1⟩:=this
  exact⟨.int .i64 k,by simp [execOp,ho,resolve,invoke,builtin,h1,Builtin.cap_,run_underlying hu,goInt],rfl⟩
noncomputable def zqj (k:IntKind) (x y:Int):V:=.int k (bif ltI y x then y else x)
theorem zlf {ts:Array TypeId}{x y:Operand}{k k':IntKind}{a b:Int}(ho:o.op=.call ⟨.builtin .min,#[x,y],ts⟩) (hx:ρ x=.int k a) (hy:ρ y=.int k' b):OpSem P B o ρ m n (zk (zqj k a b)) :=
 OpSem.pure fun C M ρc _ _ hrel=>by
  obtain⟨rx,ry⟩:=qG (ρ:=ρ) ho hrel
  rw[hx] at rx; rw[hy] at ry
  have rx':ρc x=.int k a:=rx
  have ry':ρc y=.int k' b:=ry
  refine⟨.int k (if b < a then b else a),by simp [execOp,ho,resolve,invoke,builtin,rx',ry',run_min_int2],?_⟩
  show Value.int k _=Value.int k _
  rw[vA]
  by_cases h:b < a<;>simp [h]
end
end Go.Ab
namespace Go.Ab
open Go.RowKit
variable [Gl]
section
variable {P:Program}{B:Nat}{o:Oper}{ρ:Operand→V}{m:Mem}{n:Nat}
omit [Gl] in
theorem R.part {C:Ctx}{t:TypeId}{s:Shape}{v:V}{cs:Array Value}{off:Nat}{d:TypeDesc}(ht:z5 P t=some s) (hu:P.underlying t=some d) (h:R C v (.cel s (fun i=>cs[i]?) off)) (hle:off + s.size≤cs.size) (w:World) :
  ∃ val,(part t cs off).run P w=.ok val w∧R C v (.val val):=by
 obtain⟨i,hi,hsz,hsc⟩:=xS ht
 unfold Go.part
 simp only[Sem.run_bind,yV hu,Result.andThen_ok,Sem.run_ite]
 cases ha:Xj P t with
 | true =>
  rw[ha] at hsc
  simp only[if_true,zN hi,Sem.run_bind,Result.andThen_ok,hsz,Sem.run_pure]
  refine⟨_,rfl,R.agg_val (s:=s) (R.shift v h ?_) (by rintro rfl; simp [Shape.isSc] at hsc) (by simp; omega)⟩
  intro k hk
  simp only[Nat.zero_add]
  rw[Array.getElem?_extract]
  rw[if_pos (by omega)]
 | false =>
  rw[ha] at hsc
  simp only[Bool.false_eq_true,if_false]
  cases s<;>simp [Shape.isSc] at hsc
  obtain⟨x,hx,_⟩:=R.cells v h 0 (by simp [Shape.size])
  simp only[Nat.add_zero] at hx
  refine⟨x,by rw[hx]; rfl,R.sc_val h hx⟩
theorem JP {t el:TypeId}{x ix:Operand}{N:Nat}{f:Nat→V}{s:Shape}{k:IntKind}{j:Int}{d:TypeDesc}(ho:o.op=.index t x ix) (hx:ρ x=.arr N f) (hix:ρ ix=.int k j)
  (hu:P.underlying t=some (.array N el)) (hs:z5 P el=some s) (hd:P.underlying el=some d) (hf:(f j.toNat).fits s=true) (h:0≤j∧j < N):OpSem P B o ρ m n (zk (f j.toNat)) :=
 OpSem.pure fun C M ρc _ _ hrel=>by
  have h0:=hrel x (by simp [ho,Op.operands])
  have h9:=hrel ix (by simp [ho,Op.operands])
  rw[hx] at h0; rw[hix] at h9
  have h9':ρc ix=.int k j:=h9
  obtain⟨cs,e,h1,h2,h3⟩:=h0
  have hlt:=jI h
  have r1:=h3 _ hlt
  have r2:=R.fits _ r1 hf
  have hz:=R.sizes _ r1 r2
  obtain⟨i,hi,hsz,_⟩:=xS hs
  have hle:(j.toNat + 1) * e.size≤N * e.size:=Nat.mul_le_mul_right _ hlt
  rw[Nat.add_mul] at hle
  obtain⟨val,q1,q2⟩:=R.part (P:=P) hs hd r2 (by omega) C.w
  refine⟨val,?_,q2⟩
  simp only[execOp,ho,h1,h9',Instr.index,asIntOf]
  simp [run_underlying hu,h,zN hi,hsz,←hz,q1]
theorem zfe {t:TypeId}{x:Operand}{k dd:Nat}{v:V}{fs:Array Field}{fd:Field}{s s':Shape}{d:TypeDesc}(ho:o.op=.field t x k) (hx:ρ x=v) (ha:v.isAgg=true) (hu:P.underlying t=some (.struct fs)) (hf:fs[k]?=some fd)
  (hs:z5 P t=some s) (hfit:v.fits s=true) (hk:s.fld k=some (dd,s')) (hoff:dd=fd.offset) (hs':z5 P fd.type=some s') (hd:P.underlying fd.type=some d):OpSem P B o ρ m n (zk (v.fld k)) :=
 OpSem.pure fun C M ρc _ _ hrel=>by
  have h0:=hrel x (by simp [ho,Op.operands])
  rw[hx] at h0
  obtain⟨s0,cs,h1,h2,h3,h4⟩:=R.agg_at h0 ha
  have r1:=R.fits _ h4 hfit
  have hz:=R.sizes _ h4 r1
  have r2:=R.step (x:=.fld k) r1 (by exact hk)
  have hle:=Shape.fld_le k s hk
  rw[Nat.zero_add] at r2
  obtain⟨val,q1,q2⟩:=R.part (P:=P) hs' hd r2 (by omega) C.w
  refine⟨val,?_,q2⟩
  subst hoff
  simp only[execOp,ho,h1,Instr.field]
  simp [run_underlying hu,hf,asAgg,q1]
def JQ:List UInt8→List UInt8→Bool
 | [],[]=>true
 | a::x,b::y=>Nat.beq a.toNat b.toNat&&JQ x y
 | _,_=>false
omit [Gl] in
theorem X7:∀(x y:List UInt8),JQ x y=(x==y)
 | [],[]=>rfl
 | [],_::_=>rfl
 | _::_,[]=>rfl
 | a::x,b::y=>by
  rw[JQ,X7 x y,List.cons_beq_cons]
  congr 1
  rw[Bool.eq_iff_iff,Nat.beq_eq,beq_iff_eq,UInt8.toNat_inj]
theorem Vv {op:BinOp}{t t':TypeId}{x y:Operand}{a b:ByteArray}(ho:o.op=.binOp op t x y t') (hop:op=.eql∨op=.neq) (hx:ρ x=.str a) (hy:ρ y=.str b) :
  OpSem P B o ρ m n (zk (.bool (if op=.eql then JQ a.data.toList b.data.toList else !(JQ a.data.toList b.data.toList)))) :=
 OpSem.pure fun C M ρc _ _ hrel=>by
  have h0:=hrel x (by simp [ho,Op.operands])
  have h1:=hrel y (by simp [ho,Op.operands])
  rw[hx] at h0; rw[hy] at h1
  have h0':ρc x=.string a:=h0
  have h1':ρc y=.string b:=h1
  rw[X7]
  rcases hop with rfl | rfl
  ·exact⟨.bool (a.data.toList==b.data.toList),by simp [execOp,ho,h0',h1',eqGuard,binOp,Op.stringOp,ByteArray.toList_eq],rfl⟩
  ·exact⟨.bool (!(a.data.toList==b.data.toList)),by simp [execOp,ho,h0',h1',eqGuard,binOp,Op.stringOp,ByteArray.toList_eq],rfl⟩
def V.isNilp:V→Option Bool
 | .nilp=>some true
 | .ptr ..=>some false
 | .ref ..=>some false
 | _=>none
omit [Gl] in
theorem R.isNilp {C:Ctx}{v:V}{x:Value}{b:Bool}(h:R C v (.val x)) (hb:v.isNilp=some b):∃ a:Option Addr,x=.pointer a∧a.isNone=b:=by
 cases v<;>simp only[V.isNilp,Option.some.injEq,reduceCtorEq] at hb
 ·obtain⟨_,b',off,_,_,h3⟩:=h; subst hb; exact⟨_,h3,rfl⟩
 ·obtain⟨b',o1,h1,_⟩:=h; subst hb; exact⟨_,h1,rfl⟩
 ·subst hb; exact⟨none,h,rfl⟩
theorem Vy {op:BinOp}{t t' e:TypeId}{x y:Operand}{b:Bool}(ho:o.op=.binOp op t x y t') (hop:op=.eql∨op=.neq) (hx:(ρ x).isNilp=some b) (hy:ρ y=.nilp) (hu:P.underlying t=some (.pointer e)) :
  OpSem P B o ρ m n (zk (.bool (if op=.eql then b else !b))) :=
 OpSem.pure fun C M ρc _ _ hrel=>by
  have h0:=hrel x (by simp [ho,Op.operands])
  have h1:=hrel y (by simp [ho,Op.operands])
  rw[hy] at h1
  have h1':ρc y=.pointer none:=h1
  obtain⟨a,h2,h3⟩:=R.isNilp h0 hx
  have hu':P.underlying t=some (.pointer (P.pointee t)):=by unfold Program.pointee; rw[hu]
  rcases hop with rfl | rfl
  ·exact⟨.bool b,by simp [execOp,ho,h1',h2,eqGuard,run_eql_pointer_nil C.w t a hu',h3],rfl⟩
  ·exact⟨.bool (!b),by simp [execOp,ho,h1',h2,eqGuard,run_neq_pointer_nil C.w t a hu',h3],rfl⟩
def yO (s:ByteArray) (j:Nat):V:=.int .u8 ((s.data.toList.getD j 0).toNat:Int)
theorem JR {t:TypeId}{x ix:Operand}{s:ByteArray}{k:IntKind}{j:Int}(ho:o.op=.index t x ix) (hx:ρ x=.str s) (hix:ρ ix=.int k j)
  (hu:P.underlying t=some .string) (h:0≤j∧j < s.size):OpSem P B o ρ m n (zk (yO s j.toNat)) :=
 OpSem.pure fun C M ρc _ _ hrel=>by
  have h0:=hrel x (by simp [ho,Op.operands])
  have h9:=hrel ix (by simp [ho,Op.operands])
  rw[hx] at h0; rw[hix] at h9
  have h9':ρc ix=.int k j:=h9
  have h0':ρc x=.string s:=h0
  have hlt:j.toNat < s.size:=by omega
  refine⟨.int .u8 (s[j.toNat]'hlt).toNat,?_,?_⟩
  ·simp only[execOp,ho,h0',h9',Sem.run_bind,run_index_string C.w t s k j hu,dif_pos h]
   rfl
  ·show Value.int _ _=Value.int _ _
   congr 2
   obtain⟨⟨l⟩⟩:=s
   have hlt':j.toNat < l.length:=hlt
   show (l[j.toNat]'hlt').toNat=(l.getD j.toNat 0).toNat
   rw[List.getD_eq_getElem?_getD,List.getElem?_eq_getElem hlt',Option.getD_some]
def u8s (f:Nat→V):Nat→Nat→Option (List Int)
 | 0,_=>some []
 | c + 1,i=>match f i with
  | .int .u8 x=>match u8s f c (i + 1) with
   | some l=>some (x::l)
   | none=>none
  | _=>none
omit [Gl] in
theorem Vz {f:Nat→V}:∀(c i:Nat) {l:List Int},u8s f c i=some l→l.length=c∧∀ j,j < c→f (i + j)=.int .u8 (l.getD j 0)
 | 0,i,l,h=>by simp only[u8s,Option.some.injEq] at h; subst h; exact⟨rfl,fun j hj=>by omega⟩
 | c + 1,i,l,h=>by
  simp only[u8s] at h
  split at h
  ·rename_i x hx
   split at h
   ·rename_i l' hl
    simp only[Option.some.injEq] at h
    subst h
    obtain⟨h1,h2⟩:=Vz c (i + 1) hl
    refine⟨by simp [h1],fun j hj=>?_⟩
    cases j with
    | zero=>simpa using hx
    | succ j =>
     have:=h2 j (by omega)
     rw[show i + (j + 1)=i + 1 + j by omega,this]
     simp
   ·cases h
  ·cases h
theorem JT {src dst e:TypeId}{x:Operand}{f:Nat→V}{s s0:Shape}{len:Nat}{rd:List Nat}{l:List Int}(ho:o.op=.convert src dst x) (hx:yf m s0 (ρ x)=some (s,len,f,rd)) (hl:u8s f len 0=some l) (hz:s.size=1)
  (hs:P.underlying src=some (.slice e)) (he:P.underlying e=some (.int .u8)) (hd:P.underlying dst=some .string):OpSem P B o ρ m n ⟨.str (strOfNums l),[],[],rd⟩ :=
 OpSem.pure fun C M ρc hsr hr hrel=>by
  have h0:=hrel x (by simp [ho,Op.operands])
  obtain⟨a,c,h1,h2,h3⟩:=Xc hsr hx hr h0
  obtain⟨h4,h5⟩:=Vz len 0 hl
  refine⟨.string (strOfNums l),?_,rfl⟩
  simp only[execOp,ho,h1]
  rcases h3 with h3 | ⟨b,ob,rfl,_,h3⟩
  ·subst h3
   cases l with
   | cons _ _=>simp at h4
   | nil =>
    cases a with
    | none=>simp only[Sem.run_bind,run_convert_bytes_nil C.w src e hs he 0 c dst hd,Result.andThen_ok]; rfl
    | some a =>
     have hl0:(loadCells a 0).run P C.w=.ok #[] C.w:=by simpa using run_loadCells_list (P:=P) C.w a [] (by simp)
     have:=run_bytesToString (P:=P) C.w a 0 c [] (by simpa using hl0)
     simp only[Sem.run_bind,run_convert_bytes_string C.w src dst e _ 0 c hs he hd,this,Result.andThen_ok]; rfl
  ·have:=run_convert_bytes_arg C.w src e hs he b ob len c l h4 (fun i hi=>by
    have h6:=h3 i hi
    rw[show f i=f (0 + i) by rw[Nat.zero_add],h5 i hi,hz,Nat.mul_one] at h6
    exact h6.2) dst hd
   simp only[Sem.run_bind,this,Result.andThen_ok]
   rfl
theorem JU {src dst e:TypeId}{x:Operand}{s:ByteArray}(ho:o.op=.convert src dst x) (hx:ρ x=.str s)
  (hs:P.underlying src=some .string) (hd:P.underlying dst=some (.slice e)) (he:P.underlying e=some (.int .u8)):OpSem P B o ρ m n (zk (.ro true false .sc s.size (yO s))):=by
 intro C M ρc hsr _ _ hn hrel
 have h0:=hrel x (by simp [ho,Op.operands])
 rw[hx] at h0
 have h0':ρc x=.string s:=h0
 have hrun:=run_bytes_of_string (P:=P) C.w src dst e s hs hd he
 generalize hcap:grownCap C.w s.size 0 e=cap at hrun
 have hge:s.size≤cap:=by rw[←hcap]; exact grownCap_ge C.w s.size 0 e
 have hrun':(execOp ρc o).run P C.w=.ok (.value (.slice (some ⟨C.w.heap.size,0,none⟩) s.size cap)) (C.w.drew.alloc (.cells (bytesRow s cap) e ((bytesRow s cap).size,(bytesRow s cap).size + 1))):=by
  simp only[execOp,ho,h0',Sem.run_bind,hrun,Result.andThen_ok]; rfl
 unfold Does
 rw[hrun']
 obtain⟨h1,h2⟩:=hsr.grown (w':=C.w.drew.alloc (.cells (bytesRow s cap) e ((bytesRow s cap).size,(bytesRow s cap).size + 1))) ((Below.refl _ C.w).drew.alloc (by simp) _) (fun u b=>C.ok u b∨(u=true∧b=C.w.heap.size)) (fun u b h=>.inl h) (by
  rintro u b (h | ⟨_,rfl⟩)
  ·exact .inl (.inl h)
  ·refine .inr ⟨Nat.le_refl _,?_⟩
   show C.w.heap.size < (C.w.heap.push _).size
   simp)
 refine⟨_,rfl,⟨_,cap,rfl,hge,by simp,.inr ⟨C.w.heap.size,0,rfl,Or.inr ⟨rfl,rfl⟩,fun i hi=>⟨rfl,?_⟩⟩⟩,h2,by rw[VR]; exact h1,fun id h=>.inl h⟩
 show (C.w.drew.alloc _).cell? ⟨C.w.heap.size,0 + i * 1,none⟩=some (Value.int .u8 _)
 have:=World.cell?_alloc_mark C.w.drew (bytesRow s cap) e ((bytesRow s cap).size,(bytesRow s cap).size + 1) (0 + i * 1)
 rw[show C.w.drew.heap.size=C.w.heap.size from rfl] at this
 rw[this]
 obtain⟨⟨l⟩⟩:=s
 have hi':i < l.length:=hi
 simp only[Nat.zero_add,Nat.mul_one,bytesRow]
 rw[Array.getElem?_append_left (by simpa using hi')]
 simp [List.getD_eq_getElem?_getD,List.getElem?_eq_getElem hi']
omit [Gl] in
theorem XJ (w:World) (b k:Nat) (j:Nat) (h:j≠b):(w.freeze ⟨b,k,none⟩ 1).heap[j]?=w.heap[j]?:=by
 unfold World.freeze
 rw[if_neg (by decide)]
 simp only[Array.getElem?_modify]
 rw[if_neg (by simpa using fun e=>h e.symm)]
omit [Gl] in
theorem zaa (w:World) (b k:Nat) {cs:Array Value}{e:TypeId}{fr:Nat×Nat}(h:w.heap[b]?=some (.cells cs e fr)):∃ fr',(w.freeze ⟨b,k,none⟩ 1).heap[b]?=some (.cells cs e fr'):=by
 unfold World.freeze
 rw[if_neg (by decide)]
 simp only[Array.getElem?_modify,if_true,h]
 exact⟨_,rfl⟩
omit [Gl] in
theorem Wk {B:Nat}{a w:World}(h:Below B a w) {p:Addr}(hp:B≤p.block) (n:Nat):Below B a (w.freeze p n):=by
 unfold World.freeze
 split
 ·exact h
 ·exact⟨h.1,h.2,h.3,by simpa using h.4,fun k hk=>by
   simp only[Array.getElem?_modify]
   rw[if_neg (by omega)]
   exact h.5 k hk⟩
theorem zgt {t e:TypeId}{x:Operand}{s:Shape}{len n1 id:Nat}{f:Nat→V}{blk:Blk}{et:TypeId}{l:List Int}(ho:o.op=.convert t t x) (hx:ρ x=.row id s len) (hl:0 < len) (hm:m id=some blk) (hk:blk.k=.row et) (hv:blk.v=.arr n1 f)
  (hd:P.underlying t=some (.slice e)) (he:P.underlying e=some (.int .u8)) (hz:s.isSc=true) (hu8:u8s f len 0=some l) :
  OpSem P B o ρ m n ⟨.ro true false s len f,[(id,⟨.dead,blk.sh,.unk⟩)],[],[]⟩:=by
 intro C M ρc hs _ hup hn hrel
 have h0:=hrel x (by simp [ho,Op.operands])
 rw[hx] at h0
 obtain⟨hal,⟨a,c,h1⟩,h2,h3⟩:=h0
 have h1':ρc x=.slice a len c:=by rw[←h1]; exact h3
 have hM:M id=some blk:=by
  have:=hup (id,⟨.dead,blk.sh,.unk⟩) (by simp)
  simp only at this
  rw[this]; exact hm
 have ha:blk.live=true:=by unfold Blk.live; rw[hk]
 have hbr:=hs.mem id blk hM
 unfold BR at hbr
 rw[hk] at hbr
 obtain⟨n2,s2,cells,q1,q2,q3,q4⟩:=hbr
 rw[q1,q2] at h2
 simp only[Shape.arr.injEq] at h2
 obtain⟨rfl,rfl⟩:=h2
 rcases q3.2 with ⟨_,h7⟩ | ⟨g,cap,cur,hv',hg,hh,hnc,hml,hcs,htake⟩
 ·omega
 rw[h1] at hv'
 simp only[Value.slice.injEq] at hv'
 obtain⟨rfl,_,rfl⟩:=hv'
 have hb:xe (C.sv id)=some g:=by rw[h1]; rfl
 have hrun:(execOp ρc o).run P C.w=.ok (.value (.slice (some ⟨g,0,none⟩) n2 c)) (C.w.freeze ⟨g,cur.size,none⟩ 1):=by
  have hsh:C.w.shape? g=some (et,cur.size):=by unfold World.shape?; rw[hh]
  simp [execOp,ho,h1',convert,run_underlying hd,run_underlying he,markStringish,hsh]
 unfold Does
 rw[hrun]
 have hsz:=Shape.isSc
 obtain rfl:s2=.sc:=by cases s2<;>simp [Shape.isSc] at hz<;>rfl
 obtain⟨h4,h5⟩:=Vz n2 0 hu8
 let C':Ctx:={ C with w:=C.w.freeze ⟨g,cur.size,none⟩ 1,ok:=fun u b=>C.ok u b∨(u=true∧b=g) }
 have hne:∀ u b,C.ok u b→b≠g:=fun u b hb' e=>hs.own id blk g hM ha hb u (e▸hb')
 have hkp:Kp B C C':=⟨⟨fun _ h=>h,fun _ _=>rfl,fun _ _=>rfl,fun _ _ h=>.inl h,fun u b hb'=>XJ _ _ _ _ (hne u b hb')⟩,Wk (Below.refl B C.w) hg 1,fun u b hb'=>by
  rcases hb' with h | ⟨_,rfl⟩
  ·exact .inl (.inl h)
  ·exact .inr hg⟩
 have hsr:SR B C' (upd M id (some ⟨.dead,blk.sh,.unk⟩)):=by
  refine hs.next hkp (fun i=>i=id) (fun i hi=>zf _ _ hi) ?_ ?_ ?_ ?_ ?_
  ·intro i blk1 b1 hi hm1 ha1 hb1
   exact XJ _ _ _ _ (fun e=>hi (hs.sep i id blk1 blk b1 hm1 ha1 hM ha hb1 (e▸hb)))
  ·intro i blk1 hi hm1
   subst hi
   simp only[zp,Option.some.injEq] at hm1
   subst hm1
   exact⟨hal,trivial⟩
  ·rintro u b (h | ⟨_,rfl⟩)
   ·have:=hs.okLt u b h
    show b < (C.w.freeze _ 1).heap.size
    unfold World.freeze; simpa using this
   ·show b < (C.w.freeze _ 1).heap.size
    have:=(Array.getElem?_eq_some_iff.1 hh).1
    unfold World.freeze; simpa using this
  ·intro i i' blk1 blk2 b1 h1 h2 h3 h4 hi h5 h6
   subst hi
   simp only[zp,Option.some.injEq] at h1
   subst h1
   simp [Blk.live] at h2
  ·intro i blk1 b1 k1 k2 k3 u hok
   by_cases hi:i=id
   ·subst hi
    simp only[zp,Option.some.injEq] at k1
    subst k1
    simp [Blk.live] at k2
   ·rw[zf _ _ hi] at k1
    rcases hok with hok | ⟨_,hbg⟩
    ·exact hs.own i blk1 b1 k1 k2 k3 u hok
    ·exact hi (hs.sep i id blk1 blk b1 k1 k2 hM ha k3 (by rw[hbg]; exact hb))
 refine⟨C',rfl,⟨_,c,rfl,hnc,(by intro h; cases h),.inr ⟨g,0,rfl,Or.inr ⟨rfl,rfl⟩,fun i hi=>?_⟩⟩,hkp,by rw[yT]; exact hsr,fun id h=>.inl h⟩
 have hpa:Shape.path [.idx i] (C.shp id)=some (0 + i * Shape.sc.size,.sc):=by rw[q1,q2]; simp [Shape.path,Shape.step,hi]
 obtain⟨h10,_⟩:=BR.at (hs.mem id blk hM) (by unfold Blk.alive; rw[hk]) (show xl (C.sv id)=some g by rw[h1]; rfl) hpa
 rw[hv] at h10
 have h11:R C (f i) (.cel .sc (cg C.w g) (0 + i * Shape.sc.size)):=by simpa [V.path,V.step] using h10
 obtain⟨fr',hfr⟩:=zaa C.w g cur.size hh
 have hcg:cg C'.w g=cg C.w g:=by
  funext k
  show (C.w.freeze _ 1).cell? ⟨g,k,none⟩=C.w.cell? ⟨g,k,none⟩
  rw[cell_of_row _ g k cur et fr' hfr,cell_of_row _ g k cur et _ hh]
 have h12:=h5 i hi
 rw[Nat.zero_add] at h12
 show RR (f i) C'.pur (.cel .sc (cg C'.w g) _)
 rw[hcg]
 rw[h12] at h11 ⊢
 exact h11
theorem zbE {t el:TypeId}{x:Operand}{u clip:Bool}{e:Shape}{len N:Nat}{f:Nat→V}(ho:o.op=.sliceToArrayPointer t x) (hx:ρ x=.ro u clip e len f) (hu:P.underlying t=some (.array N el)) (h0:0 < N) (hle:N≤len) :
  OpSem P B o ρ m n (zk (.ref u (.arr N e) (.arr N f))) :=
 OpSem.pure fun C M ρc _ _ hrel=>by
  have h:=hrel x (by simp [ho,Op.operands])
  rw[hx] at h
  obtain⟨a,c,h1,h2,h3,h4⟩:=h
  have h1':ρc x=.slice a len c:=h1
  rcases h4 with h4 | ⟨b,o1,rfl,h5,h6⟩
  ·omega
  refine⟨.pointer (some ⟨b,o1,none⟩),?_,b,o1,rfl,h5,e,rfl,fun i hi=>h6 i (by omega)⟩
  simp [execOp,ho,h1',Instr.arrayAt,run_underlying hu,Nat.not_lt.2 hle]
theorem zbF {t el:TypeId}{x:Operand}{id off len N:Nat}{p:List Step}{cap:Option Nat}{e:Shape}(ho:o.op=.sliceToArrayPointer t x) (hx:ρ x=.sl id p e off len cap) (hu:P.underlying t=some (.array N el)) (h0:0 < N) (hle:N≤len) :
  OpSem P B o ρ m n (zk (.ptr id (p++[.sub off N]) (.arr N e))) :=
 OpSem.pure fun C M ρc _ _ hrel=>by
  have h:=hrel x (by simp [ho,Op.operands])
  rw[hx] at h
  obtain⟨hal,ad,c,o1,n1,h1,hlc,hcap,h5,h7,h4⟩:=h
  have h1':ρc x=.slice ad len c:=h1
  rcases h4 with h4 | ⟨b,h8,rfl⟩
  ·omega
  refine⟨.pointer (some ⟨b,o1 + off * e.size,none⟩),?_,hal,b,o1 + off * e.size,h8,Shape.path_snoc p h5 (by simp [Shape.step]; omega),rfl⟩
  simp [execOp,ho,h1',Instr.arrayAt,run_underlying hu,Nat.not_lt.2 hle]
end
end Go.Ab
namespace Go.Ab
open Go.RowKit
noncomputable section
def V.setC:List Step→V→V→V
 | [],x,_=>x
 | .fld k::p,x,v=>v.setFld k (V.setC p x)
 | .idx i::p,x,v=>match v with
  | .arr n f=>.arr n fun j=>@Bool.rec (fun _=>V) (f j) (V.setC p x (f j)) (Nat.beq j i)
  | v=>v
 | .sub off n::p,x,v=>match v with
  | .arr m f=>.arr m fun j=>@Bool.rec (fun _=>V) (f j) ((V.setC p x (.arr n fun i=>f (off + i))).step (.idx (j - off))) (decide (off≤j)&&decide (j < off + n))
  | v=>v
theorem We (c:Bool) (a b:V):@Bool.rec (fun _=>V) b a c=V.ite c a b:=by rw[V.ite_eq]; cases c<;>rfl
theorem V.setC_eq (x:V):∀(p:List Step) (v:V),V.setC p x v=V.set p x v
 | [],v=>rfl
 | .fld k::p,v=>by
  show v.setFld k (V.setC p x)=v.setFld k (V.set p x)
  rw[show V.setC p x=V.set p x from funext (V.setC_eq x p)]
 | .idx i::p,v=>by
  cases v with
  | arr n f =>
   show V.arr n (fun j=>@Bool.rec (fun _=>V) (f j) (V.setC p x (f j)) (Nat.beq j i))=V.arr n fun j=>V.ite (j==i) (V.set p x (f j)) (f j)
   congr 1
   funext j
   rw[We,V.setC_eq x p,show Nat.beq j i=(j==i) from by rw[Bool.eq_iff_iff,Nat.beq_eq,beq_iff_eq]]
  | _=>rfl
 | .sub off n::p,v=>by
  cases v with
  | arr m f =>
   show V.arr m (fun j=>@Bool.rec (fun _=>V) (f j) ((V.setC p x (.arr n fun i=>f (off + i))).step (.idx (j - off))) (decide (off≤j)&&decide (j < off + n)))=V.arr m fun j=>V.ite (decide (off≤j)&&decide (j < off + n)) ((V.set p x (.arr n fun i=>f (off + i))).step (.idx (j - off))) (f j)
   congr 1
   funext j
   rw[We,V.setC_eq x p]
  | _=>rfl
def zqd (len0:Nat) (f0 f:Nat→V):Nat→V:=fun i=>@Bool.rec (fun _=>V) (f (i - len0)) (f0 i) (Nat.blt i len0)
theorem zk2 (len0:Nat) (f0 f:Nat→V):zqd len0 f0 f=wt len0 f0 f:=by
 funext i
 unfold zqd wt
 rw[We]
 congr 1
 rw[Bool.eq_iff_iff]
 simp
def zdd (st:Bool):V→List (Nat×V)→V
 | v,[]=>v
 | v,(i,x)::r=>zdd st (V.setC [wo st i] x v) r
theorem YN (st:Bool):∀(l:List (Nat×V)) (v:V),zdd st v l=JZ st v l
 | [],v=>rfl
 | (i,x)::r,v=>by
  show zdd st (V.setC [wo st i] x v) r=JZ st (V.set [wo st i] x v) r
  rw[V.setC_eq,YN st r]
def cpC (off cnt:Nat) (f0 f:Nat→V):Nat→V:=fun j=>@Bool.rec (fun _=>V) (f0 j) (f (j - off)) (Nat.ble off j&&Nat.blt j (off + cnt))
theorem zqe (off cnt:Nat) (f0 f:Nat→V):cpC off cnt f0 f=cpF off cnt f0 f:=by
 funext j
 unfold cpC cpF
 rw[We]
 congr 1
 rw[Bool.eq_iff_iff]
 simp
section
variable [Gl]
def zgl (p:List Step) (x v:V):V:=@Bool.rec (fun _=>V) (V.set p x v) (V.setC p x v) Gl.cl
theorem wT (p:List Step) (x v:V):zgl p x v=V.set p x v:=by
 unfold zgl
 cases Gl.cl
 ·rfl
 ·exact V.setC_eq x p v
def zde (st:Bool) (v:V) (l:List (Nat×V)):V:=@Bool.rec (fun _=>V) (JZ st v l) (zdd st v l) Gl.cl
theorem Zj (st:Bool) (v:V) (l:List (Nat×V)):zde st v l=JZ st v l:=by
 unfold zde
 cases Gl.cl
 ·rfl
 ·exact YN st l v
def zfc (len0:Nat) (f0 f:Nat→V):Nat→V:=@Bool.rec (fun _=>Nat→V) (wt len0 f0 f) (zqd len0 f0 f) Gl.cl
theorem Zk (len0:Nat) (f0 f:Nat→V):zfc len0 f0 f=wt len0 f0 f:=by
 unfold zfc
 cases Gl.cl
 ·rfl
 ·exact zk2 len0 f0 f
def cpX (off cnt:Nat) (f0 f:Nat→V):Nat→V:=@Bool.rec (fun _=>Nat→V) (cpF off cnt f0 f) (cpC off cnt f0 f) Gl.cl
theorem Wf (off cnt:Nat) (f0 f:Nat→V):cpX off cnt f0 f=cpF off cnt f0 f:=by
 unfold cpX
 cases Gl.cl
 ·rfl
 ·exact zqe off cnt f0 f
end
end
end Go.Ab
namespace Go.Y
open Go.Ab Go.RowKit
noncomputable section
inductive Dg where
 | a | b | c | d
 deriving DecidableEq
abbrev Pth:=List Dg
def Dg.n:Dg→Nat
 | .a=>0
 | .b=>1
 | .c=>2
 | .d=>3
def Dg.of (n:Nat):Dg:=@Nat.rec (fun _=>Dg) .a (fun n _=>@Nat.rec (fun _=>Dg) .b (fun n _=>@Nat.rec (fun _=>Dg) .c (fun _ _=>.d) n) n) n
theorem Dg.n_of:∀ {n:Nat},n < 4→(Dg.of n).n=n
 | 0,_=>rfl
 | 1,_=>rfl
 | 2,_=>rfl
 | 3,_=>rfl
 | n + 4,h=>by omega
def num:Pth→Nat
 | []=>0
 | x::p=>4 * num p + x.n + 1
def zlg:Nat→Nat→Pth
 | 0,_=>[]
 | _ + 1,0=>[]
 | f + 1,n + 1=>Dg.of (Nat.mod n 4)::zlg f (Nat.div n 4)
def enc (n:Nat):Pth:=zlg n n
theorem zal:∀(f n:Nat),n≤f→num (zlg f n)=n
 | 0,n,h=>by
   obtain rfl:n=0:=by omega
   rfl
 | f + 1,0,_=>rfl
 | f + 1,n + 1,h=>by
  show 4 * num (zlg f (n / 4)) + (Dg.of (n % 4)).n + 1=n + 1
  rw[zal f (n / 4) (by omega),Dg.n_of (Nat.mod_lt _ (by omega))]
  omega
theorem Wx (n:Nat):num (enc n)=n:=zal n n (Nat.le_refl _)
theorem zlh {i j:Nat}(h:enc i=enc j):i=j:=by rw[←Wx i,h,Wx]
theorem zgG {i j:Nat}(h:i≠j):enc i≠enc j:=fun e=>h (zlh e)
inductive Tr (α:Type) where
 | e
 | m (a b c d:Tr α)
 | n (x:α) (a b c d:Tr α)
 deriving Inhabited
section
variable {α:Type}
def zgH (g:Dg) (a b c d:Tr α):Tr α:=@Dg.rec (fun _=>Tr α) a b c d g
def zA4 (x:α) (t:Tr α):α:=@Tr.rec α (fun _=>α) x (fun _ _ _ _ _ _ _ _=>x) (fun y _ _ _ _ _ _ _ _=>y) t
def zA5 (x:α) (g:Dg) (ih:Tr α→α) (t:Tr α):α:=@Tr.rec α (fun _=>α) x (fun a b c d _ _ _ _=>ih (zgH g a b c d)) (fun _ a b c d _ _ _ _=>ih (zgH g a b c d)) t
def get (x:α) (p:Pth):Tr α→α:=@List.rec Dg (fun _=>Tr α→α) (zA4 x) (fun g _ ih=>zA5 x g ih) p
def zA6 (x:α) (t:Tr α):Tr α:=@Tr.rec α (fun _=>Tr α) (.n x .e .e .e .e) (fun a b c d _ _ _ _=>.n x a b c d) (fun _ a b c d _ _ _ _=>.n x a b c d) t
def znU (g:Dg) (ih:Tr α→Tr α) (a b c d:Tr α):Tr α:=@Dg.rec (fun _=>Tr α) (.m (ih a) b c d) (.m a (ih b) c d) (.m a b (ih c) d) (.m a b c (ih d)) g
def zu3 (g:Dg) (ih:Tr α→Tr α) (x:α) (a b c d:Tr α):Tr α:=@Dg.rec (fun _=>Tr α) (.n x (ih a) b c d) (.n x a (ih b) c d) (.n x a b (ih c) d) (.n x a b c (ih d)) g
def zA7 (g:Dg) (ih:Tr α→Tr α) (t:Tr α):Tr α:=@Tr.rec α (fun _=>Tr α) (znU g ih .e .e .e .e) (fun a b c d _ _ _ _=>znU g ih a b c d) (fun x a b c d _ _ _ _=>zu3 g ih x a b c d) t
def set (x:α) (p:Pth):Tr α→Tr α:=@List.rec Dg (fun _=>Tr α→Tr α) (zA6 x) (fun g _ ih=>zA7 g ih) p
theorem XL (x:α):∀ p,get x p .e=x
 | []=>rfl
 | _::_=>rfl
theorem Zv (d x:α):∀(p:Pth) (t:Tr α),get d p (set x p t)=x
 | [],t=>by cases t<;>rfl
 | g::p,t=>by
  have ih:=Zv d x p
  cases t<;>cases g<;>exact ih _
theorem VN (d x:α):∀(p q:Pth) (t:Tr α),p≠q→get d p (set x q t)=get d p t
 | [],[],t,h=>absurd rfl h
 | [],g::q,t,_=>by cases t<;>cases g<;>rfl
 | g::p,[],t,_=>by cases t<;>first | rfl | (cases g<;>exact XL d p)
 | g::p,g'::q,t,h=>by
  by_cases hg:g=g'
  ·subst hg
   have hpq:p≠q:=fun e=>h (by rw[e])
   have ih:=fun t=>VN d x p q t hpq
   cases t with
   | e =>
    have h1:=ih .e
    rw[XL] at h1
    cases g<;>exact h1
   | m a b c d1=>cases g<;>exact ih _
   | n y a b c d1=>cases g<;>exact ih _
  ·cases t with
   | e=>cases g<;>cases g'<;>first | exact absurd rfl hg | exact XL d p
   | m a b c d1=>cases g<;>cases g'<;>first | exact absurd rfl hg | rfl
   | n y a b c d1=>cases g<;>cases g'<;>first | exact absurd rfl hg | rfl
theorem zli (d x:α) (p q:Pth) (t:Tr α):get d p (set x q t)=if p=q then x else get d p t:=by
 by_cases h:p=q
 ·subst h; rw[if_pos rfl,Zv]
 ·rw[if_neg h,VN d x p q t h]
theorem Xh (d x:α) (i j:Nat) (t:Tr α):get d (enc i) (set x (enc j) t)=if i=j then x else get d (enc i) t:=by
 rw[zli]
 by_cases h:i=j
 ·subst h; simp
 ·rw[if_neg h,if_neg (zgG h)]
def fT0 (x:α) (t:Tr α) (K:Tr α→Prop):Prop:=@Tr.rec α (fun _=>Prop) (K (.n x .e .e .e .e)) (fun a b c d _ _ _ _=>K (.n x a b c d)) (fun _ a b c d _ _ _ _=>K (.n x a b c d)) t
def fTm (g:Dg) (ih:Tr α→(Tr α→Prop)→Prop) (K:Tr α→Prop) (a b c d:Tr α):Prop:=@Dg.rec (fun _=>Prop) (ih a fun a=>K (.m a b c d)) (ih b fun b=>K (.m a b c d)) (ih c fun c=>K (.m a b c d)) (ih d fun d=>K (.m a b c d)) g
def fTn (g:Dg) (ih:Tr α→(Tr α→Prop)→Prop) (K:Tr α→Prop) (x:α) (a b c d:Tr α):Prop:=@Dg.rec (fun _=>Prop) (ih a fun a=>K (.n x a b c d)) (ih b fun b=>K (.n x a b c d)) (ih c fun c=>K (.n x a b c d)) (ih d fun d=>K (.n x a b c d)) g
def fT1 (g:Dg) (ih:Tr α→(Tr α→Prop)→Prop) (t:Tr α) (K:Tr α→Prop):Prop:=@Tr.rec α (fun _=>Prop) (fTm g ih K .e .e .e .e) (fun a b c d _ _ _ _=>fTm g ih K a b c d) (fun x a b c d _ _ _ _=>fTn g ih K x a b c d) t
def vc (x:α) (p:Pth):Tr α→(Tr α→Prop)→Prop:=@List.rec Dg (fun _=>Tr α→(Tr α→Prop)→Prop) (fT0 x) (fun g _ ih=>fT1 g ih) p
theorem xz (x:α):∀(p:Pth) (t:Tr α) (K:Tr α→Prop),vc x p t K=K (set x p t)
 | [],t,K=>by cases t<;>rfl
 | g::p,t,K=>by
  have ih:=xz x p
  cases t with
  | e=>cases g<;>exact ih _ _
  | m a b c d=>cases g<;>exact ih _ _
  | n y a b c d=>cases g<;>exact ih _ _
end
def zW (m:Nat) (f:Nat→Prop):Prop:=@Nat.rec (fun _=>Prop) (f (nat_lit 0)) (fun p _=>f (Nat.succ p)) m
theorem zZ (m:Nat) (f:Nat→Prop):zW m f=f m:=by cases m<;>rfl
abbrev Tm:=Tr V
abbrev Zm:=Tr (Option Blk)
def tv (tm:Tm) (t:Nat):V:=get .unk (enc t) tm
def Sub (m M:Mem):Prop:=∀ id b,m id=some b→M id=some b
def cnd (c:Bool) (p:Prop):Prop:=@Bool.rec (fun _=>Prop) False p c
theorem za {c:Bool}{p:Prop}:cnd c p↔c=true∧p:=by cases c<;>simp [cnd]
def alt (c:Bool) (p q:Prop):Prop:=@Bool.rec (fun _=>Prop) q p c
theorem zg {c:Bool}{p q:Prop}:alt c p q↔(c=true→p)∧(c=false→q):=by cases c<;>simp [alt]
inductive RS where
 | bad
 | ok (e:Eff)
 | tst (c:Bool) (e:Eff)
 | prv (p:Prop) (e:Eff)
def RS.is (r:RS) (e:Eff):Prop:=match r with
 | .bad=>False
 | .ok e'=>e'=e
 | .tst c e'=>c=true∧e'=e
 | .prv p e'=>p∧e'=e
def okE (v:V):RS:=.ok (zk v)
variable [Gl]
def Wy (P:Program) (t:TypeId) (n:Nat):RS :=
 match xu P t with
 | some (s,z)=>.ok ⟨.ptr n [] s,[],[⟨.box t,s,z⟩],[]⟩
 | none=>.bad
def zlj (P:Program) (t:TypeId) (x:V) (n:Nat):RS :=
 match z5 P t with
 | some s=>if x.fits s&&x.known then .ok ⟨.ptr n [] s,[],[⟨.box t,s,x⟩],[]⟩ else .bad
 | none=>.bad
def Wz (P:Program) (t:TypeId) (ps:List (Nat×V)):RS :=
 match xu P t,qF P t with
 | some (s,z),some (st,pl)=>if bok s st pl ps then okE (zde st z ps) else .bad
 | _,_=>.bad
def v7 (P:Program) (t:TypeId) (len:Nat) (ps:List (Nat×V)) (n:Nat):RS :=
 match P.underlying t with
 | some (.slice et)=>match xu P et with
  | some (s,z)=>if decide (len * s.size≤2 ^ 24)&&decide (len * s.size≠0)&&bok (.arr len s) false (fun i=>some (i * s.size,s.size)) ps then
    .ok ⟨.row n s len,[],[⟨.row et,.arr len s,zde false (.arr len fun _=>z) ps⟩],[]⟩ else .bad
  | none=>.bad
 | _=>.bad
def zam (P:Program) (t:TypeId) (x:V) (m:Mem):RS :=
 match z5 P t,P.underlying t with
 | some s,some _=>match x with
  | .ptr id p s'=>match m id with
   | some blk=>if blk.alive&&s'.beq s then .ok ⟨blk.v.path p,[],[],[id]⟩ else .bad
   | none=>.bad
  | .ref u s' c=>if s'.beq s then okE c else .bad
  | _=>.bad
 | _,_=>.bad
def WA (P:Program) (t:TypeId) (a x:V) (m:Mem):RS :=
 match z5 P t with
 | some s=>match a with
  | .ptr id p s'=>match m id with
   | some blk=>if blk.alive&&s'.beq s&&x.fits s&&x.known then .ok ⟨.tup .nl,[(id,⟨blk.k,blk.sh,zgl p x blk.v⟩)],[],[]⟩ else .bad
   | none=>.bad
  | _=>.bad
 | none=>.bad
def zqk (x:V):RS :=
 match x with
 | .ptr .. | .ref ..=>okE x
 | .fn f _=>.tst (Nat.blt f 2147483648) (zk x)
 | _=>.bad
def xa (k l:IntKind):Bool:=match k,l with
 | .i8,.i8 | .i16,.i16 | .i32,.i32 | .i64,.i64 | .u8,.u8 | .u16,.u16 | .u32,.u32 | .u64,.u64=>true
 | _,_=>false
omit [Gl] in
theorem zD {k l:IntKind}(h:xa k l=true):k=l:=by cases k<;>cases l<;>first | rfl | cases h
def neB (a:Int):Bool:=!(eqI a 0)
def geB (a:Int):Bool:=leI 0 a
def qe (P:Program) (op:BinOp) (t:TypeId) (x y:V):RS :=
 match x,y with
 | .int k a,.int k' b=>match op with
  | .shl=>.tst (geB b) (zk (shift .shl k a b))
  | .shr=>.tst (geB b) (zk (shift .shr k a b))
  | .quo=>if xa k k' then .tst (neB b) (zk (bin .quo k a b)) else .bad
  | .rem=>if xa k k' then .tst (neB b) (zk (bin .rem k a b)) else .bad
  | op=>if xa k k' then okE (bin op k a b) else .bad
 | .bool a,.bool b=>match P.underlying t with
  | some .bool=>match op with
   | .eql=>okE (.bool (a==b))
   | .neq=>okE (.bool (!(a==b)))
   | _=>.bad
  | _=>.bad
 | v,v'=>if v.isAgg&&v'.isAgg&&lay P 12 t&&eqT P 12 t v v'&&v.fits (shp P 12 t)&&v'.fits (shp P 12 t)&&!P.eqGuardType P.depth t then
   match op with
   | .eql=>okE (.bool (eqV v v'))
   | .neq=>okE (.bool (!eqV v v'))
   | _=>.bad
  else .bad
def yUn (op:UnOp) (x:V):RS :=
 match op,x with
 | .not,.bool b=>okE (.bool !b)
 | .neg,.int k a=>okE (unary .neg k a)
 | .xor,.int k a=>okE (unary .xor k a)
 | _,_=>.bad
def zan (P:Program) (src dst:TypeId) (x:V):RS :=
 match x,P.underlying dst,P.underlying src with
 | .int _ a,some (.int k),some _=>okE (.int k (VF k a))
 | _,_,_=>.bad
def VO (P:Program) (st:TypeId) (x:V) (f:Nat):RS :=
 match P.underlying st with
 | some (.struct fs)=>match fs[f]? with
  | some fd=>match P.info? fd.type with
   | some i=>if i.size=0 then .bad else match x with
    | .ptr id p s=>match s.fld f with
     | some (d,s')=>if d=fd.offset then okE (.ptr id (p++[.fld f]) s') else .bad
     | none=>.bad
    | .ref u s c=>match s.fld f with
     | some (d,s')=>if d=fd.offset then okE (.ref u s' (c.fld f)) else .bad
     | none=>.bad
    | _=>.bad
   | none=>.bad
  | none=>.bad
 | _=>.bad
def ixB (j:Int) (n:Nat):Bool:=leI 0 j&&ltI j (.ofNat n)
def wv (P:Program) (t:TypeId) (x ix:V) (m:Mem):RS :=
 match ix with
 | .int k j=>match P.underlying t with
  | some (.array len el)=>match P.info? el with
   | some i=>match x with
    | .ptr id p (.arr len' e)=>if len'=len∧i.size=e.size then .tst (ixB j len) (zk (.ptr id (p++[.idx j.toNat]) e)) else .bad
    | .ref u (.arr len' e) c=>if len'=len∧i.size=e.size then .tst (ixB j len) (zk (.ref u e (c.step (.idx j.toNat)))) else .bad
    | _=>.bad
   | none=>.bad
  | some (.slice el)=>match P.info? el with
   | some i=>match x with
    | .row id e len=>match m id with
     | some blk=>if i.size=e.size∧blk.alive=true then .tst (ixB j len) ⟨.ptr id [.idx j.toNat] e,[],[],[id]⟩ else .bad
     | none=>.bad
    | .sl id p e off len cap=>if i.size=e.size then .tst (ixB j len) (zk (.ptr id (p++[.idx (off + j.toNat)]) e)) else .bad
    | .ro u clip e len f=>if i.size=e.size then .tst (ixB j len) (zk (.ref u e (f j.toNat))) else .bad
    | _=>.bad
   | none=>.bad
  | _=>.bad
 | _=>.bad
def zfl (P:Program) (t:TypeId) (x:V):RS :=
 match P.underlying t with
 | some (.slice _)=>match x.len with
  | some k=>okE (.int .i64 k)
  | none=>.bad
 | some .string=>match x with
  | .str s=>okE (.int .i64 s.size)
  | _=>.bad
 | some (.array k _)=>okE (.int .i64 k)
 | _=>.bad
def slB (l h:Int) (n:Nat) (mv:Option Int):Bool:=(leI 0 l&&(leI l h&&leI h (.ofNat n)))&&match mv with
 | none=>true
 | some m=>leI h m&&leI m (.ofNat n)
def ySl (P:Program) (el:TypeId) (x:V) (l:Int) (hi:Option V) (mv:Option Int) (m:Mem):RS :=
 match P.info? el with
 | some i=>match x with
  | .ro u clip e len f=>if i.size=e.size then match V.bnd len hi with
   | some h=>.tst (slB l h len mv) (zk (.ro u (yu clip len h mv) e (h.toNat - l.toNat) fun j=>f (l.toNat + j)))
   | none=>.bad
   else .bad
  | .row id e len=>match m id with
   | some blk=>if i.size=e.size∧blk.alive=true then match V.bnd len hi with
    | some h=>.tst (slB l h len mv) ⟨.sl id [] e l.toNat (h.toNat - l.toNat) (Xg l.toNat none mv),[],[],[id]⟩
    | none=>.bad
    else .bad
   | none=>.bad
  | .sl id p e off len cap=>if i.size=e.size then match V.bnd len hi with
   | some h=>.tst (slB l h len mv) (zk (.sl id p e (off + l.toNat) (h.toNat - l.toNat) (Xg l.toNat cap mv)))
   | none=>.bad
   else .bad
  | .nils=>match V.bnd (0:Nat) hi with
   | some h=>.tst (slB l h 0 mv) (zk .nils)
   | none=>.bad
  | _=>.bad
 | none=>.bad
def zlk (P:Program) (N:Nat) (el:TypeId) (x:V) (l:Int) (hi:Option V) (mv:Option Int):RS :=
 match P.info? el,V.bnd N hi with
 | some i,some h=>match x with
  | .ptr id p (.arr N' e)=>if N'=N∧i.size=e.size then .tst (slB l h N mv) (zk (.sl id p e l.toNat (h.toNat - l.toNat) (Xg l.toNat (some N) mv))) else .bad
  | .ref u (.arr N' e) (.arr N2 f)=>if N'=N∧N2=N∧i.size=e.size then .tst (slB l h N mv) (zk (.ro u (yu true N h mv) e (h.toNat - l.toNat) fun j=>f (l.toNat + j))) else .bad
  | _=>.bad
 | _,_=>.bad
def jO (P:Program) (t:TypeId) (x:V) (lo hi mx:Option V) (m:Mem):RS :=
 if (mx.isNone||hi.isSome)=true then match V.bnd 0 lo,V.mxb mx with
  | some l,some mv=>match P.underlying t with
   | some (.slice el)=>ySl P el x l hi mv m
   | some (.array N el)=>zlk P N el x l hi mv
   | some .string=>match x,mv with
    | .str s,none=>match V.bnd s.size hi with
     | some h=>.tst (slB l h s.size none) (zk (.str (s.extract l.toNat h.toNat)))
     | none=>.bad
    | _,_=>.bad
   | _=>.bad
  | _,_=>.bad
 else .bad
def mkB (a b:Int):Bool:=leI 0 a&&(leI a b&&leI b 16777216)
def zgI (P:Program) (t:TypeId) (same:Bool) (l c:V) (n:Nat):RS :=
 match P.underlying t with
 | some (.slice et)=>match xu P et,P.info? et with
  | some (s,z),some i=>if i.bytes≤1048576 then match l,c with
   | .int _ a,.int _ b=>.tst (mkB a b) (match same with
    | true=>⟨.sl n [] s 0 a.toNat (some b.toNat),[],[⟨.box et,.arr b.toNat s,.arr b.toNat fun _=>z⟩],[]⟩
    | false=>⟨.row n s a.toNat,[],[⟨.row et,.arr a.toNat s,.arr a.toNat fun _=>z⟩],[]⟩)
   | _,_=>.bad
   else .bad
  | _,_=>.bad
 | _=>.bad
def apB (a b:Nat):Bool:=Nat.ble (a + b) 134217728
def Xi (et:TypeId) (x:V) (s:Shape) (k:Nat) (f:Nat→V) (rd:List Nat) (m:Mem) (n:Nat):RS :=
 match x with
 | .nils=>.tst (apB 0 k) ⟨.row n s (0 + k),[],[⟨.row et,.arr (0 + k) s,.arr (0 + k) (zfc 0 (fun _=>.unk) f)⟩],rd⟩
 | .row id s' len=>match m id with
  | some blk=>match blk.k,blk.v with
   | .row et',.arr n1 f0=>if s'.beq s=true∧et'=et∧Nat.blt id n=true then
     .tst (apB len k) ⟨.row n s (len + k),[(id,⟨.dead,blk.sh,.unk⟩)],[⟨.row et,.arr (len + k) s,.arr (len + k) (zfc len f0 f)⟩],rd⟩ else .bad
   | _,_=>.bad
  | none=>.bad
 | .ro u true s' len f0=>if s'.beq s then .tst (apB len k&&Nat.blt 0 k) ⟨.row n s (len + k),[],[⟨.row et,.arr (len + k) s,.arr (len + k) (zfc len f0 f)⟩],rd⟩ else .bad
 | .sl id p s' off len (some cap)=>match m id with
  | some blk=>match blk.v.path p with
   | .arr N f0=>if blk.alive=true∧s'.beq s=true then
     if Nat.ble (len + k) cap=true then .tst (Nat.ble (off + len + k) N) ⟨.sl id p s' off (len + k) (some cap),[(id,⟨blk.k,blk.sh,zgl p (.arr N (cpX (off + len) k f0 f)) blk.v⟩)],[],rd⟩
     else .tst (apB len k&&Nat.blt 0 k) ⟨.row n s (len + k),[],[⟨.row et,.arr (len + k) s,.arr (len + k) (zfc len (fun i=>f0 (off + i)) f)⟩],id::rd⟩
    else .bad
   | _=>.bad
  | none=>.bad
 | _=>.bad
def Zw (P:Program) (t t':TypeId) (x y:V) (m:Mem) (n:Nat):RS :=
 if t'=t then match P.underlying t with
  | some (.slice et)=>match xu P et,P.info? et with
   | some (s,z),some i=>if i.bytes≤1048576∧0 < s.size then match yf m s y with
    | some (s',k,f,rd)=>if s'.beq s then Xi et x s k f rd m n else .bad
    | none=>.bad
    else .bad
   | _,_=>.bad
  | _=>.bad
 else .bad
def zdq (P:Program) (t:TypeId) (x y:V) (m:Mem):RS :=
 match P.underlying t with
 | some (.slice et)=>match P.info? et,x with
  | some i,.sl id p e off len cap=>match m id with
   | some blk=>match blk.v.path p,yf m e y with
    | .arr N f0,some (e',k,f,rd)=>if blk.alive=true∧e'.beq e=true∧i.size=e.size then
      .ok ⟨.int .i64 (min k len:Nat),[(id,⟨blk.k,blk.sh,zgl p (.arr N (cpX off (min k len) f0 f)) blk.v⟩)],[],rd⟩ else .bad
    | _,_=>.bad
   | none=>.bad
  | _,_=>.bad
 | _=>.bad
def zfm (P:Program) (t:TypeId) (x:V):RS :=
 match P.underlying t with
 | some (.slice _)=>match x.cap with
  | some k=>okE (.int .i64 k)
  | none=>.bad
 | _=>.bad
def zql (x y:V):RS:=match x,y with
 | .int k a,.int _ b=>okE (zqj k a b)
 | _,_=>.bad
def Zx (P:Program) (t:TypeId) (x ix:V):RS :=
 match ix with
 | .int _ j=>match P.underlying t,x with
  | some .string,.str s=>.tst (ixB j s.size) (zk (yO s j.toNat))
  | some (.array N el),.arr N' f=>match z5 P el,P.underlying el with
   | some s,some _=>if N'=N then .tst (ixB j N&&(f j.toNat).fits s) (zk (f j.toNat)) else .bad
   | _,_=>.bad
  | _,_=>.bad
 | _=>.bad
def X9 (P:Program) (t:TypeId) (x:V) (k:Nat):RS :=
 match P.underlying t,z5 P t with
 | some (.struct fs),some s=>match fs[k]?,s.fld k with
  | some fd,some (d,s')=>match z5 P fd.type,P.underlying fd.type with
   | some s2,some _=>if x.isAgg=true∧x.fits s=true∧d=fd.offset∧s2.beq s'=true then okE (x.fld k) else .bad
   | _,_=>.bad
  | _,_=>.bad
 | _,_=>.bad
def vM (P:Program) (src dst:TypeId) (x:V) (m:Mem):RS :=
 match P.underlying src,P.underlying dst with
 | some .string,some .string=>match x with
  | .str s=>okE x
  | _=>.bad
 | some .string,some (.slice e)=>match P.underlying e,x with
  | some (.int .u8),.str s=>okE (.ro true false .sc s.size (yO s))
  | _,_=>.bad
 | some (.slice e),some .string=>match P.underlying e with
  | some (.int .u8)=>match yf m .sc x with
   | some (.sc,len,f,rd)=>match u8s f len 0 with
    | some l=>.ok ⟨.str (strOfNums l),[],[],rd⟩
    | none=>.bad
   | _=>.bad
  | _=>.bad
 | some (.slice e),some (.slice _)=>if dst=src then match P.underlying e,x with
  | some (.int .u8),.row id .sc len=>match m id with
   | some blk=>match blk.k,blk.v with
    | .row et,.arr n1 f=>match u8s f len 0 with
     | some l=>if Nat.blt 0 len then .ok ⟨.ro true false .sc len f,[(id,⟨.dead,blk.sh,.unk⟩)],[],[]⟩ else .bad
     | none=>.bad
    | _,_=>.bad
   | none=>.bad
  | _,_=>.bad
  else .bad
 | _,_=>.bad
def zll (P:Program) (t:TypeId) (x:V):RS :=
 match P.underlying t,x with
 | some (.array N el),.ro u clip e len f=>.tst (Nat.blt 0 N&&Nat.ble N len) (zk (.ref u (.arr N e) (.arr N f)))
 | _,_=>.bad
def zao (P:Program) (op:BinOp) (t:TypeId) (x y:V):RS :=
 match x,y with
 | .str a,.str b=>match op with
  | .eql=>okE (.bool (JQ a.data.toList b.data.toList))
  | .neq=>okE (.bool !(JQ a.data.toList b.data.toList))
  | _=>.bad
 | x,.nilp=>match P.underlying t,x.isNilp with
  | some (.pointer _),some b=>match op with
   | .eql=>okE (.bool b)
   | .neq=>okE (.bool !b)
   | _=>.bad
  | _,_=>.bad
 | _,_=>.bad
end
end Go.Y
namespace Go.Y
open Go.Ab Go.RowKit
noncomputable section
variable [Gl]
def wu (x:V) (k:Nat):RS:=match x with
 | .tup l=>match l.nth k with
  | some v=>okE v
  | none=>.bad
 | _=>.bad
def zgz (c a b:V):RS:=match c with
 | .bool t=>okE (V.ite t a b)
 | _=>.bad
def VJ (P:Program) (b:Builtin) (ts:List TypeId) (args:List V) (m:Mem) (n:Nat):RS :=
 match b,ts,args with
 | .len,[t],[x]=>zfl P t x
 | .cap,[t],[x]=>zfm P t x
 | .min,_,[x,y]=>zql x y
 | .append,[t,t'],[x,y]=>Zw P t t' x y m n
 | .copy,[t,_],[x,y]=>zdq P t x y m
 | _,_,_=>.bad
def yMk (P:Program) (t:TypeId) (l c:Operand) (x y:V) (n:Nat):RS:=zgI P t true x y n
def yBS (P:Program) (t:TypeId) (len:Nat) (ps:List (Nat×V)) (n:Nat):RS:=match len,ps with
 | 0,[]=>match P.underlying t with
  | some (.slice et)=>match xu P et with
   | some (s,z)=>.ok ⟨.row n s 0,[],[⟨.row et,.arr 0 s,.arr 0 fun _=>z⟩],[]⟩
   | none=>.bad
  | _=>.bad
 | len,ps=>v7 P t len ps n
def zbI:V→Bool
 | .int ..=>true
 | _=>false
def Wo (P:Program) (src dst:TypeId) (x:V) (m:Mem):RS:=@Bool.rec (fun _=>RS) (vM P src dst x m) (zan P src dst x) (zbI x)
def zfk:V→V→Bool
 | .str _,_=>true
 | _,.nilp=>true
 | _,_=>false
def v6 (P:Program) (op:BinOp) (t:TypeId) (x y:V):RS:=@Bool.rec (fun _=>RS) (qe P op t x y) (zao P op t x y) (zfk x y)
def Xe (f:Fn) (a:List Operand) (caps:List V):RS:=match f,a with
 | .func f,[]=>.tst (Nat.blt f 1073741824) (zk (.fn f (mkL caps)))
 | _,_=>.bad
def zA3 (P:Program) (o:Op) (ρ:Operand→V) (m:Mem) (n:Nat):RS :=
 match o with
 | .move x=>okE (ρ x)
 | .assign x=>okE (ρ x)
 | .pick c a b=>zgz (ρ c) (ρ a) (ρ b)
 | .alloc t=>Wy P t n
 | .box t x=>zlj P t (ρ x) n
 | .build t ps=>Wz P t (ps.toList.map fun x=>(x.1,ρ x.2))
 | .buildSlice t len ps=>yBS P t len (ps.toList.map fun x=>(x.1,ρ x.2)) n
 | .load t x=>zam P t (ρ x) m
 | .store t a x=>WA P t (ρ a) (ρ x) m
 | .nilCheck x=>zqk (ρ x)
 | .binOp op t x y _=>v6 P op t (ρ x) (ρ y)
 | .unOp op _ x=>yUn op (ρ x)
 | .convert src dst x=>Wo P src dst (ρ x) m
 | .fieldAddr st x f=>VO P st (ρ x) f
 | .indexAddr t x ix=>wv P t (ρ x) (ρ ix) m
 | .extract x k=>wu (ρ x) k
 | .makeFunc f a cap=>Xe f a.toList (cap.toList.map ρ)
 | .call ⟨.builtin b,args,ts⟩=>VJ P b ts.toList (args.toList.map ρ) m n
 | .slice t x lo hi mx=>jO P t (ρ x) (lo.map ρ) (hi.map ρ) (mx.map ρ) m
 | .makeSlice t l c=>yMk P t l c (ρ l) (ρ c) n
 | .index t x ix=>Zx P t (ρ x) (ρ ix)
 | .field t x k=>X9 P t (ρ x) k
 | .sliceToArrayPointer t x=>zll P t (ρ x)
 | _=>.bad
omit [Gl] in
theorem zV {v:V}{e:Eff}(h:(okE v).is e):e=zk v:=(show zk v=e from h).symm
omit [Gl] in
theorem zM {c:Prop} [Decidable c] {r:RS}{e:Eff}(h:(if c then r else RS.bad).is e):c∧r.is e:=by
 by_cases hc:c
 ·rw[if_pos hc] at h; exact⟨hc,h⟩
 ·rw[if_neg hc] at h; exact h.elim
section
variable {P:Program}{B:Nat}{o:Oper}{ρ:Operand→V}{m:Mem}{n:Nat}{e:Eff}
structure UpIn (m:Mem) (e:Eff):Prop where
 up:∀ x∈e.up,∃ b,m x.1=some b
 rd:∀ id∈e.rd,∃ b,m id=some b
omit [Gl] in
theorem UpIn.nil {v:V}{nw:List Blk}:UpIn m ⟨v,[],nw,[]⟩:=⟨(fun _ h=>(by cases h)),(fun _ h=>(by cases h))⟩
omit [Gl] in
theorem UpIn.rd1 {v:V}{id:Nat}{c:Blk}{nw:List Blk}(h:m id=some c):UpIn m ⟨v,[],nw,[id]⟩:=⟨(fun _ h=>(by cases h)),fun x hx=>by
 simp only[List.mem_singleton] at hx
 subst hx
 exact⟨c,h⟩⟩
omit [Gl] in
theorem UpIn.one {v:V}{id:Nat}{b c:Blk}{nw:List Blk}(h:m id=some c):UpIn m ⟨v,[(id,b)],nw,[]⟩:=⟨fun x hx=>by
 simp only[List.mem_singleton] at hx
 subst hx
 exact⟨c,h⟩,(fun _ h=>(by cases h))⟩
theorem zag {t:TypeId}(ho:o.op=.alloc t) (h:(Wy P t n).is e):OpSem P B o ρ m n e∧UpIn m e:=by
 unfold Wy at h
 split at h
 ·rename_i s z hz
  cases (show _=e from h)
  exact⟨zfn ho hz,UpIn.nil⟩
 ·exact h.elim
theorem zgA {t:TypeId}{x:Operand}(ho:o.op=.box t x) (h:(zlj P t (ρ x) n).is e):OpSem P B o ρ m n e∧UpIn m e:=by
 unfold zlj at h
 split at h
 ·obtain⟨hc,h⟩:=zM h
  simp only[Bool.and_eq_true] at hc
  cases (show _=e from h)
  exact⟨zlm ho hc.1 hc.2,UpIn.nil⟩
 ·exact h.elim
theorem zah {t:TypeId}{ps:Array (Nat×Operand)}(ho:o.op=.build t ps) (h:(Wz P t (ps.toList.map fun x=>(x.1,ρ x.2))).is e):OpSem P B o ρ m n e∧UpIn m e:=by
 unfold Wz at h
 simp only[Zj] at h
 split at h
 ·rename_i s z st pl hz hpl
  obtain⟨hc,h⟩:=zM h
  cases zV h
  exact⟨zfj ho hz hpl hc,UpIn.nil⟩
 ·exact h.elim
theorem J0 {t:TypeId}{len:Nat}{ps:Array (Nat×Operand)}(ho:o.op=.buildSlice t len ps) (h:(v7 P t len (ps.toList.map fun x=>(x.1,ρ x.2)) n).is e):OpSem P B o ρ m n e∧UpIn m e:=by
 unfold v7 at h
 simp only[Zj] at h
 split at h
 ·rename_i et hu
  split at h
  ·rename_i s z hz
   obtain⟨hc,h⟩:=zM h
   simp only[Bool.and_eq_true,decide_eq_true_eq] at hc
   cases (show _=e from h)
   exact⟨VH ho hu hz hc.1.1 hc.1.2 hc.2,UpIn.nil⟩
  ·exact h.elim
 ·exact h.elim
theorem Wp {t:TypeId}{x:Operand}(ho:o.op=.load t x) (h:(zam P t (ρ x) m).is e):OpSem P B o ρ m n e∧UpIn m e:=by
 unfold zam at h
 split at h
 ·rename_i s d hs hd
  split at h
  ·rename_i id p s' hx
   split at h
   ·rename_i blk hm
    obtain⟨hc,h⟩:=zM h
    simp only[Bool.and_eq_true] at hc
    cases (show _=e from h)
    obtain rfl:=Shape.eq_of_beq hc.2
    exact⟨zgK ho hx hm hc.1 hs hd,UpIn.rd1 hm⟩
   ·exact h.elim
  ·rename_i u s' c hx
   obtain⟨hc,h⟩:=zM h
   cases zV h
   obtain rfl:=Shape.eq_of_beq hc
   exact⟨WB ho hx hs hd,UpIn.nil⟩
  ·exact h.elim
 ·exact h.elim
theorem zai {t:TypeId}{a x:Operand}(ho:o.op=.store t a x) (h:(WA P t (ρ a) (ρ x) m).is e):OpSem P B o ρ m n e∧UpIn m e:=by
 unfold WA at h
 simp only[wT] at h
 split at h
 ·rename_i s hs
  split at h
  ·rename_i id p s' hx
   split at h
   ·rename_i blk hm
    obtain⟨hc,h⟩:=zM h
    simp only[Bool.and_eq_true] at hc
    cases (show _=e from h)
    obtain rfl:=Shape.eq_of_beq hc.1.1.2
    exact⟨zfo ho hx hm hc.1.1.1 hs hc.1.2 hc.2,UpIn.one hm⟩
   ·exact h.elim
  ·exact h.elim
 ·exact h.elim
theorem Wq {x:Operand}(ho:o.op=.nilCheck x) (h:(zqk (ρ x)).is e):OpSem P B o ρ m n e∧UpIn m e:=by
 unfold zqk at h
 split at h
 ·rename_i hx; cases zV h; exact⟨qC ho (.inl ⟨_,_,_,hx⟩),UpIn.nil⟩
 ·rename_i hx; cases zV h; exact⟨qC ho (.inr (.inl ⟨_,_,_,hx⟩)),UpIn.nil⟩
 ·rename_i f c hx
  obtain⟨h1,rfl⟩:=(show _∧_ from h)
  exact⟨qC ho (.inr (.inr ⟨_,_,hx,by simpa [Nat.blt_eq] using h1⟩)),UpIn.nil⟩
 ·exact h.elim
theorem zqi {op:BinOp}{t t':TypeId}{x y:Operand}(ho:o.op=.binOp op t x y t') (h:(qe P op t (ρ x) (ρ y)).is e):OpSem P B o ρ m n e∧UpIn m e:=by
 unfold qe at h
 split at h
 ·rename_i k a k' b hx hy
  split at h
  ·obtain⟨h1,rfl⟩:=(show _∧_ from h); exact⟨Qr ho (.inl rfl) hx hy (by simpa [geB,xR] using h1),UpIn.nil⟩
  ·obtain⟨h1,rfl⟩:=(show _∧_ from h); exact⟨Qr ho (.inr rfl) hx hy (by simpa [geB,xR] using h1),UpIn.nil⟩
  ·obtain⟨hk,h2⟩:=zM h
   clear h
   obtain rfl:=zD hk
   obtain⟨h1,rfl⟩:=(show _∧_ from h2); exact⟨Wh ho hx hy (by simpa [neB,Qq,Xd] using h1),UpIn.nil⟩
  ·obtain⟨hk,h2⟩:=zM h
   clear h
   obtain rfl:=zD hk
   obtain⟨h1,rfl⟩:=(show _∧_ from h2); exact⟨Wh ho hx hy (by simpa [neB,Qq,Xd] using h1),UpIn.nil⟩
  ·rename_i h1 h2 h3 h4
   obtain⟨hk,h5⟩:=zM h
   clear h
   obtain rfl:=zD hk
   cases zV h5
   refine⟨Wh ho hx hy ?_,UpIn.nil⟩
   unfold Qq
   split
   ·exact absurd rfl h3
   ·exact absurd rfl h4
   ·exact absurd rfl h1
   ·exact absurd rfl h2
   ·trivial
 ·rename_i a b hx hy
  split at h
  ·rename_i hu
   split at h
   ·cases zV h; exact⟨XK ho (.inl rfl) hx hy hu,UpIn.nil⟩
   ·cases zV h; exact⟨XK ho (.inr rfl) hx hy hu,UpIn.nil⟩
   ·exact h.elim
  ·exact h.elim
 ·obtain⟨hc,h⟩:=zM h
  simp only[Bool.and_eq_true,Bool.not_eq_true'] at hc
  obtain⟨⟨⟨⟨⟨⟨c1,c2⟩,c3⟩,c4⟩,c5⟩,c6⟩,c7⟩:=hc
  split at h
  ·cases zV h; exact⟨VG ho (.inl rfl) c3 c4 c5 c6 c1 c2 c7,UpIn.nil⟩
  ·cases zV h; exact⟨VG ho (.inr rfl) c3 c4 c5 c6 c1 c2 c7,UpIn.nil⟩
  ·exact h.elim
theorem zdn {op:UnOp}{t:TypeId}{x:Operand}(ho:o.op=.unOp op t x) (h:(yUn op (ρ x)).is e):OpSem P B o ρ m n e∧UpIn m e:=by
 unfold yUn at h
 split at h
 ·rename_i b hx; cases zV h; exact⟨zk4 ho hx,UpIn.nil⟩
 ·rename_i k a hx; cases zV h; exact⟨Qs ho (.inl rfl) hx,UpIn.nil⟩
 ·rename_i k a hx; cases zV h; exact⟨Qs ho (.inr rfl) hx,UpIn.nil⟩
 ·exact h.elim
theorem zlb {src dst:TypeId}{x:Operand}(ho:o.op=.convert src dst x) (h:(zan P src dst (ρ x)).is e):OpSem P B o ρ m n e∧UpIn m e:=by
 unfold zan at h
 split at h
 ·rename_i k0 a k d hx hd hs
  cases zV h; exact⟨zgp ho hx hd (by rw[hs]; rfl),UpIn.nil⟩
 ·exact h.elim
theorem VK {st:TypeId}{x:Operand}{f:Nat}(ho:o.op=.fieldAddr st x f) (h:(VO P st (ρ x) f).is e):OpSem P B o ρ m n e∧UpIn m e:=by
 unfold VO at h
 split at h
 ·rename_i fs hu
  split at h
  ·rename_i fd hf
   split at h
   ·rename_i i hi
    split at h
    ·exact h.elim
    ·rename_i hz
     split at h
     ·rename_i id p s hx
      split at h
      ·rename_i d s' hs
       obtain⟨hd,h5⟩:=zM h
       clear h
       subst hd
       cases zV h5; exact⟨JM ho hx hu hf hi hz hs,UpIn.nil⟩
      ·exact h.elim
     ·rename_i u s c hx
      split at h
      ·rename_i d s' hs
       obtain⟨hd,h5⟩:=zM h
       clear h
       subst hd
       cases zV h5; exact⟨Zo ho hx hu hf hi hz hs,UpIn.nil⟩
      ·exact h.elim
     ·exact h.elim
   ·exact h.elim
  ·exact h.elim
 ·exact h.elim
theorem qn {t:TypeId}{x ix:Operand}(ho:o.op=.indexAddr t x ix) (h:(wv P t (ρ x) (ρ ix) m).is e):OpSem P B o ρ m n e∧UpIn m e:=by
 unfold wv at h
 split at h
 ·rename_i k j hix
  split at h
  ·rename_i len el hu
   split at h
   ·rename_i i hi
    split at h
    ·rename_i id p len' e' hx
     obtain⟨⟨rfl,hz⟩,h⟩:=zM h
     obtain⟨h1,rfl⟩:=(show _∧_ from h)
     exact⟨ye ho hx hix hu hi hz (by simpa [ixB,xR,vA] using h1),UpIn.nil⟩
    ·rename_i u len' e' c hx
     obtain⟨⟨rfl,hz⟩,h⟩:=zM h
     obtain⟨h1,rfl⟩:=(show _∧_ from h)
     exact⟨Zp ho hx hix hu hi hz (by simpa [ixB,xR,vA] using h1),UpIn.nil⟩
    ·exact h.elim
   ·exact h.elim
  ·rename_i el hu
   split at h
   ·rename_i i hi
    split at h
    ·rename_i id e' len hx
     split at h
     ·rename_i blk hm
      obtain⟨⟨hz,hal⟩,h⟩:=zM h
      obtain⟨h1,rfl⟩:=(show _∧_ from h)
      exact⟨Zq ho hx hix hm hal hu hi hz (by simpa [ixB,xR,vA] using h1),UpIn.rd1 hm⟩
     ·exact h.elim
    ·rename_i id p e' off len cap hx
     obtain⟨hz,h⟩:=zM h
     obtain⟨h1,rfl⟩:=(show _∧_ from h)
     exact⟨Xa ho hx hix hu hi hz (by simpa [ixB,xR,vA] using h1),UpIn.nil⟩
    ·rename_i u clip e' len f hx
     obtain⟨hz,h⟩:=zM h
     obtain⟨h1,rfl⟩:=(show _∧_ from h)
     exact⟨Xb ho hx hix hu hi hz (by simpa [ixB,xR,vA] using h1),UpIn.nil⟩
    ·exact h.elim
   ·exact h.elim
  ·exact h.elim
 ·exact h.elim
theorem VL {x:Operand}{k:Nat}(ho:o.op=.extract x k) (h:(wu (ρ x) k).is e):OpSem P B o ρ m n e∧UpIn m e:=by
 unfold wu at h
 split at h
 ·rename_i l hx
  split at h
  ·rename_i v hv
   cases zV h; exact⟨YV ho hx hv,UpIn.nil⟩
  ·exact h.elim
 ·exact h.elim
theorem Ws {c a b:Operand}(ho:o.op=.pick c a b) (h:(zgz (ρ c) (ρ a) (ρ b)).is e):OpSem P B o ρ m n e∧UpIn m e:=by
 unfold zgz at h
 split at h
 ·rename_i t hc
  cases zV h; exact⟨zgJ ho hc,UpIn.nil⟩
 ·exact h.elim
theorem zaj {f:Fn}{a cap:Array Operand}(ho:o.op=.makeFunc f a cap) (h:(Xe f a.toList (cap.toList.map ρ)).is e):OpSem P B o ρ m n e∧UpIn m e:=by
 unfold Xe at h
 split at h
 ·rename_i f' ha
  obtain⟨l⟩:=a
  obtain rfl:l=[]:=by simpa using ha
  have h:Nat.blt f' 1073741824=true∧_:=h
  obtain⟨h1,rfl⟩:=h
  exact⟨Zr ho (by rw[Nat.blt_eq] at h1; exact h1),UpIn.nil⟩
 ·exact h.elim
theorem Wt {t:TypeId}{x:Operand}(ho:o.op=.call ⟨.builtin .len,#[x],#[t]⟩) (h:(zfl P t (ρ x)).is e):OpSem P B o ρ m n e∧UpIn m e:=by
 unfold zfl at h
 split at h
 ·rename_i e' hu
  split at h
  ·rename_i k hk
   cases zV h; exact⟨zk5 ho hk hu,UpIn.nil⟩
  ·exact h.elim
 ·rename_i hu
  split at h
  ·rename_i s hs
   cases zV h; exact⟨YW ho hs hu,UpIn.nil⟩
  ·exact h.elim
 ·rename_i k e' hu
  cases zV h; exact⟨YX ho hu,UpIn.nil⟩
 ·exact h.elim
omit [Gl] in
theorem zdo {l:List Operand}{v:V}(h:l.map ρ=[v]):∃ x,l=[x]∧ρ x=v:=by
 match l,h with
 | [x],h=>exact⟨x,rfl,by simpa using h⟩
omit [Gl] in
theorem Wu {l:List Operand}{v w:V}(h:l.map ρ=[v,w]):∃ x y,l=[x,y]∧ρ x=v∧ρ y=w:=by
 match l,h with
 | [x,y],h=>simp only[List.map_cons,List.map_nil,List.cons.injEq,and_true] at h; exact⟨x,y,rfl,h.1,h.2⟩
omit [Gl] in
theorem arr_of {α:Type}{a:Array α}{l:List α}(h:a.toList=l):a=⟨l⟩:=by obtain⟨k⟩:=a; exact congrArg Array.mk h
omit [Gl] in
theorem x9 {c:Bool}{e':Eff}(h:(RS.tst c e').is e):c=true∧e'=e:=h
theorem Wv {t:TypeId}{x:Operand}(ho:o.op=.call ⟨.builtin .cap,#[x],#[t]⟩) (h:(zfm P t (ρ x)).is e):OpSem P B o ρ m n e∧UpIn m e:=by
 unfold zfm at h
 split at h
 ·rename_i e' hu
  split at h
  ·rename_i k hk
   cases zV h; exact⟨zle ho hk hu,UpIn.nil⟩
  ·exact h.elim
 ·exact h.elim
theorem zgB {ts:Array TypeId}{x y:Operand}(ho:o.op=.call ⟨.builtin .min,#[x,y],ts⟩) (h:(zql (ρ x) (ρ y)).is e):OpSem P B o ρ m n e∧UpIn m e:=by
 unfold zql at h
 split at h
 ·rename_i k a k' b hx hy
  cases zV h; exact⟨zlf ho hx hy,UpIn.nil⟩
 ·exact h.elim
omit [Gl] in
theorem UpIn.rdL {v:V}{nw:List Blk}{rd:List Nat}(h:∀ id∈rd,∃ b,m id=some b):UpIn m ⟨v,[],nw,rd⟩:=⟨(fun _ h=>(by cases h)),h⟩
omit [Gl] in
theorem UpIn.oneL {v:V}{id:Nat}{b c:Blk}{nw:List Blk}{rd:List Nat}(h1:m id=some c) (h:∀ id∈rd,∃ b,m id=some b):UpIn m ⟨v,[(id,b)],nw,rd⟩:=⟨fun x hx=>by
 simp only[List.mem_singleton] at hx
 subst hx
 exact⟨c,h1⟩,h⟩
theorem jJ {t t':TypeId}{x y:Operand}(ho:o.op=.call ⟨.builtin .append,#[x,y],#[t,t']⟩) (h:(Zw P t t' (ρ x) (ρ y) m n).is e):OpSem P B o ρ m n e∧UpIn m e:=by
 unfold Zw at h
 obtain⟨rfl,h⟩:=zM h
 split at h
 ·rename_i et hu
  split at h
  ·rename_i s z i hz hi
   obtain⟨⟨hby,hpos⟩,h⟩:=zM h
   split at h
   ·rename_i s' k f rd hy
    obtain⟨hs,h⟩:=zM h
    obtain rfl:=Shape.eq_of_beq hs
    have hrd:=Wj hy
    unfold Xi at h
    simp only[Zk,wT,Wf] at h
    split at h
    ·rename_i hx
     obtain⟨h1,rfl⟩:=x9 h
     exact⟨VI (old:=none) ho hu hz hi hby hpos (.inl ⟨rfl,hx,rfl⟩) hy (by simpa [apB] using h1) (fun _ h=>by cases h),UpIn.rdL hrd⟩
    ·rename_i id s2 len hx
     split at h
     ·rename_i blk hm
      split at h
      ·rename_i et' n1 f0 hk hv
       obtain⟨⟨hs2,rfl,hlt⟩,h⟩:=zM h
       obtain rfl:=Shape.eq_of_beq hs2
       obtain⟨h1,rfl⟩:=x9 h
       exact⟨VI (old:=some (id,blk)) ho hu hz hi hby hpos (.inr ⟨id,blk,n1,rfl,hx,hm,hk,hv⟩) hy (by simpa [apB] using h1) (fun x hx=>by cases hx; simpa using hlt),UpIn.oneL hm hrd⟩
      ·exact h.elim
     ·exact h.elim
    ·rename_i u s2 len f0 hx
     obtain⟨hs2,h⟩:=zM h
     obtain rfl:=Shape.eq_of_beq hs2
     obtain⟨h1,rfl⟩:=x9 h
     simp only[Bool.and_eq_true,apB,Nat.ble_eq,Nat.blt_eq] at h1
     exact⟨JV ho hu hz hi hby hpos hx hy h1.1 h1.2,UpIn.rdL hrd⟩
    ·rename_i id p s2 off len cap hx
     split at h
     ·rename_i blk hm
      split at h
      ·rename_i N f0 hv0
       obtain⟨⟨ha,hs2⟩,h⟩:=zM h
       obtain rfl:=Shape.eq_of_beq hs2
       by_cases hc:Nat.ble (len + k) cap=true
       ·rw[if_pos hc] at h
        obtain⟨h1,rfl⟩:=x9 h
        obtain⟨i',zv,hi',_,hsz,_,_⟩:=qD hz
        rw[hi] at hi'; cases hi'
        exact⟨JX ho hu hi hsz hx hm ha hv0 hy (Nat.le_of_ble_eq_true hc) (Nat.le_of_ble_eq_true h1),UpIn.oneL hm hrd⟩
       ·rw[if_neg hc] at h
        obtain⟨h1,rfl⟩:=x9 h
        simp only[Bool.and_eq_true,apB,Nat.ble_eq,Nat.blt_eq] at h1
        rw[Nat.ble_eq] at hc
        exact⟨VA ho hu hz hi hby hpos hx hm ha hv0 hy h1.1 (by omega) h1.2,UpIn.rdL (by
         intro i hi
         rcases List.mem_cons.1 hi with rfl | hi
         ·exact⟨_,hm⟩
         ·exact hrd i hi)⟩
      ·exact h.elim
     ·exact h.elim
    ·exact h.elim
   ·exact h.elim
  ·exact h.elim
 ·exact h.elim
theorem zdp {t t':TypeId}{x y:Operand}(ho:o.op=.call ⟨.builtin .copy,#[x,y],#[t,t']⟩) (h:(zdq P t (ρ x) (ρ y) m).is e):OpSem P B o ρ m n e∧UpIn m e:=by
 unfold zdq at h
 simp only[wT,Wf] at h
 split at h
 ·rename_i et hu
  split at h
  ·rename_i i id p e0 off len cap hi hx
   split at h
   ·rename_i blk hm
    split at h
    ·rename_i N f0 e' k f rd hv0 hy
     obtain⟨⟨ha,he,hz⟩,h9⟩:=zM h
     clear h
     obtain rfl:=Shape.eq_of_beq he
     cases (show _=e from h9)
     exact⟨zgu ho hx hm ha hv0 hy hu hi hz,UpIn.oneL hm (Wj hy)⟩
    ·exact h.elim
   ·exact h.elim
  ·exact h.elim
 ·exact h.elim
theorem zbJ {b:Builtin}{args:Array Operand}{ts:Array TypeId}(ho:o.op=.call ⟨.builtin b,args,ts⟩) (h:(VJ P b ts.toList (args.toList.map ρ) m n).is e):OpSem P B o ρ m n e∧UpIn m e:=by
 unfold VJ at h
 split at h
 ·rename_i t v hts hargs
  obtain⟨x,hx,rfl⟩:=zdo hargs
  rw[arr_of hx,arr_of hts] at ho
  exact Wt ho h
 ·rename_i t v hts hargs
  obtain⟨x,hx,rfl⟩:=zdo hargs
  rw[arr_of hx,arr_of hts] at ho
  exact Wv ho h
 ·rename_i v w hargs
  obtain⟨x,y,hx,rfl,rfl⟩:=Wu hargs
  rw[arr_of hx] at ho
  exact zgB ho h
 ·rename_i t t' v w hts hargs
  obtain⟨x,y,hx,rfl,rfl⟩:=Wu hargs
  rw[arr_of hx,arr_of hts] at ho
  exact jJ ho h
 ·rename_i t t' v w hts hargs
  obtain⟨x,y,hx,rfl,rfl⟩:=Wu hargs
  rw[arr_of hx,arr_of hts] at ho
  exact zdp ho h
 ·exact h.elim
omit [Gl] in
theorem qH {lo hi mx:Option Operand}{l h:Int}{len:Nat}{mv:Option Int}(h1:V.bnd 0 (lo.map ρ)=some l) (h2:V.bnd len (hi.map ρ)=some h) (h3:V.mxb (mx.map ρ)=some mv) (h4:((mx.map ρ).isNone||(hi.map ρ).isSome)=true) (hb:slB l h len mv=true):Bds ρ lo hi mx len l h mv:=by
 simp only[slB,xR,Bool.and_eq_true,decide_eq_true_eq,Int.ofNat_eq_natCast] at hb
 refine⟨h1,h2,h3,?_,hb.1.1,hb.1.2.1,hb.1.2.2,?_⟩
 ·rintro rfl
  cases mx with
  | none=>rfl
  | some _=>simp at h4
 ·rintro m rfl
  simpa using hb.2
theorem zak {t:TypeId}{x:Operand}{lo hi mx:Option Operand}(ho:o.op=.slice t x lo hi mx) (h:(jO P t (ρ x) (lo.map ρ) (hi.map ρ) (mx.map ρ) m).is e):OpSem P B o ρ m n e∧UpIn m e:=by
 unfold jO at h
 obtain⟨h4,h⟩:=zM h
 split at h
 ·rename_i l mv h1 h3
  split at h
  ·rename_i el hu
   unfold ySl at h
   split at h
   ·rename_i i hi'
    split at h
    ·rename_i u clip e' len f hx
     obtain⟨hz,h⟩:=zM h
     split at h
     ·rename_i hh h2
      obtain⟨hb,rfl⟩:=x9 h
      exact⟨J1 ho hx hu hi' hz (qH h1 h2 h3 h4 hb),UpIn.nil⟩
     ·exact h.elim
    ·rename_i id e' len hx
     split at h
     ·rename_i blk hm
      obtain⟨⟨hz,ha⟩,h⟩:=zM h
      split at h
      ·rename_i hh h2
       obtain⟨hb,rfl⟩:=x9 h
       exact⟨J2 ho hx hm ha hu hi' hz (qH h1 h2 h3 h4 hb),UpIn.rd1 hm⟩
      ·exact h.elim
     ·exact h.elim
    ·rename_i id p e' off len cap hx
     obtain⟨hz,h⟩:=zM h
     split at h
     ·rename_i hh h2
      obtain⟨hb,rfl⟩:=x9 h
      exact⟨Ww ho hx hu hi' hz (qH h1 h2 h3 h4 hb),UpIn.nil⟩
     ·exact h.elim
    ·rename_i hx
     split at h
     ·rename_i hh h2
      obtain⟨hb,rfl⟩:=x9 h
      exact⟨VM ho hx hu hi' (qH h1 h2 h3 h4 hb),UpIn.nil⟩
     ·exact h.elim
    ·exact h.elim
   ·exact h.elim
  ·rename_i N el hu
   unfold zlk at h
   split at h
   ·rename_i i hh hi' h2
    split at h
    ·rename_i id p N' e' hx
     obtain⟨⟨rfl,hz⟩,h⟩:=zM h
     obtain⟨hb,rfl⟩:=x9 h
     exact⟨J3 ho hx hu hi' hz (qH h1 h2 h3 h4 hb),UpIn.nil⟩
    ·rename_i u N' e' N2 f hx
     obtain⟨⟨rfl,rfl,hz⟩,h⟩:=zM h
     obtain⟨hb,rfl⟩:=x9 h
     exact⟨J4 ho hx hu hi' hz (qH h1 h2 h3 h4 hb),UpIn.nil⟩
    ·exact h.elim
   ·exact h.elim
  ·rename_i hu
   split at h
   ·rename_i s hx
    split at h
    ·rename_i hh h2
     obtain⟨hb,rfl⟩:=x9 h
     have hb':=qH h1 h2 h3 h4 hb
     obtain rfl:mx=none:=by
      cases mx with
      | none=>rfl
      | some y =>
       simp only[Option.map_some] at h3
       cases hy:ρ y<;>rw[hy] at h3<;>simp [V.mxb] at h3
     exact⟨J5 ho hx hu hb',UpIn.nil⟩
    ·exact h.elim
   ·exact h.elim
  ·exact h.elim
 ·exact h.elim
theorem znT {t:TypeId}{l c:Operand}(ho:o.op=.makeSlice t l c) (h:(yMk P t l c (ρ l) (ρ c) n).is e):OpSem P B o ρ m n e∧UpIn m e:=by
 unfold yMk zgI at h
 split at h
 ·rename_i et hu
  split at h
  ·rename_i s z i hz hi
   obtain⟨hby,h⟩:=zM h
   split at h
   ·rename_i k a k' b hl hc
    obtain⟨hb,h⟩:=x9 h
    simp only[mkB,xR,Bool.and_eq_true,decide_eq_true_eq] at hb
    have e1:((a.toNat:Nat):Int)=a:=Int.toNat_of_nonneg hb.1
    have e2:((b.toNat:Nat):Int)=b:=Int.toNat_of_nonneg (by omega)
    rw[←e1] at hl
    rw[←e2] at hc
    split at h
    ·subst h
     exact⟨zbB ho hl hc hu hz hi hby (by omega) (by omega),UpIn.nil⟩
    ·subst h
     exact⟨YZ ho hl hc hu hz hi hby (by omega) (by omega),UpIn.nil⟩
   ·exact h.elim
  ·exact h.elim
 ·exact h.elim
theorem zgC {t:TypeId}{len:Nat}{ps:Array (Nat×Operand)}(ho:o.op=.buildSlice t len ps) (h:(yBS P t len (ps.toList.map fun x=>(x.1,ρ x.2)) n).is e):OpSem P B o ρ m n e∧UpIn m e:=by
 unfold yBS at h
 split at h
 ·rename_i hps
  split at h
  ·rename_i et hu
   split at h
   ·rename_i s z hz
    cases (show _=e from h)
    have:ps=#[]:=by
     obtain⟨l⟩:=ps
     have:l=[]:=by simpa using hps
     rw[this]
    subst this
    exact⟨JN ho hu hz,UpIn.nil⟩
   ·exact h.elim
  ·exact h.elim
 ·exact J0 ho h
theorem Xf {t:TypeId}{x ix:Operand}(ho:o.op=.index t x ix) (h:(Zx P t (ρ x) (ρ ix)).is e):OpSem P B o ρ m n e∧UpIn m e:=by
 unfold Zx at h
 split at h
 ·rename_i k j hix
  split at h
  ·rename_i s hu hx
   obtain⟨hb,rfl⟩:=x9 h
   exact⟨JR ho hx hix hu (by simpa [ixB,xR,vA] using hb),UpIn.nil⟩
  ·rename_i N el N' f hu hx
   split at h
   ·rename_i s d hs hd
    obtain⟨rfl,h⟩:=zM h
    obtain⟨hb,rfl⟩:=x9 h
    simp only[ixB,xR,vA,Bool.and_eq_true,decide_eq_true_eq,Int.ofNat_eq_natCast] at hb
    exact⟨JP ho hx hix hu hs hd hb.2 hb.1,UpIn.nil⟩
   ·exact h.elim
  ·exact h.elim
 ·exact h.elim
theorem Qz {t:TypeId}{x:Operand}{k:Nat}(ho:o.op=.field t x k) (h:(X9 P t (ρ x) k).is e):OpSem P B o ρ m n e∧UpIn m e:=by
 unfold X9 at h
 split at h
 ·rename_i fs s hu hs
  split at h
  ·rename_i fd d s' hf hk
   split at h
   ·rename_i s2 dd hs2 hd
    obtain⟨⟨h1,h2,h3,h4⟩,h9⟩:=zM h
    clear h
    obtain rfl:=Shape.eq_of_beq h4
    cases zV h9
    exact⟨zfe ho rfl h1 hu hf hs h2 hk h3 hs2 hd,UpIn.nil⟩
   ·exact h.elim
  ·exact h.elim
 ·exact h.elim
theorem zgD {src dst:TypeId}{x:Operand}(ho:o.op=.convert src dst x) (h:(vM P src dst (ρ x) m).is e):OpSem P B o ρ m n e∧UpIn m e:=by
 unfold vM at h
 split at h
 ·rename_i hs hd
  split at h
  ·rename_i s hx
   cases zV h
   refine⟨OpSem.pure fun C M ρc _ _ hrel=>?_,UpIn.nil⟩
   have h0:=hrel x (by simp [ho,Op.operands])
   rw[hx] at h0
   have h0':ρc x=.string s:=h0
   exact⟨.string s,by simp [execOp,ho,h0',convert,run_underlying hs,run_underlying hd],by rw[hx]; rfl⟩
  ·exact h.elim
 ·rename_i e' hs hd
  split at h
  ·rename_i s he hx
   cases zV h
   exact⟨JU ho hx hs hd he,UpIn.nil⟩
  ·exact h.elim
 ·rename_i e' hs hd
  split at h
  ·rename_i he
   split at h
   ·rename_i len f rd hx
    split at h
    ·rename_i l hl
     cases (show _=e from h)
     exact⟨JT ho hx hl rfl hs he hd,UpIn.rdL (Wj hx)⟩
    ·exact h.elim
   ·exact h.elim
  ·exact h.elim
 ·rename_i e' e2 hs hd
  obtain⟨heq,h9⟩:=zM h
  clear h
  have h:=h9
  clear h9
  subst heq
  split at h
  ·rename_i id len he hx
   split at h
   ·rename_i blk hm
    split at h
    ·rename_i et n1 f hk hv
     split at h
     ·rename_i l hl
      obtain⟨hlt,h⟩:=zM h
      cases (show _=e from h)
      exact⟨zgt ho hx (by simpa using hlt) hm hk hv hs he rfl hl,UpIn.one hm⟩
     ·exact h.elim
    ·exact h.elim
   ·exact h.elim
  ·exact h.elim
 ·exact h.elim
theorem jN {src dst:TypeId}{x:Operand}(ho:o.op=.convert src dst x) (h:(Wo P src dst (ρ x) m).is e):OpSem P B o ρ m n e∧UpIn m e:=by
 unfold Wo at h
 cases hi:zbI (ρ x)<;>rw[hi] at h
 ·exact zgD ho h
 ·exact zlb ho h
theorem zgE {t:TypeId}{x:Operand}(ho:o.op=.sliceToArrayPointer t x) (h:(zll P t (ρ x)).is e):OpSem P B o ρ m n e∧UpIn m e:=by
 unfold zll at h
 split at h
 ·rename_i N el u clip e' len f hu hx
  obtain⟨hb,rfl⟩:=x9 h
  simp only[Bool.and_eq_true,Nat.blt_eq,Nat.ble_eq] at hb
  exact⟨zbE ho hx hu hb.1 hb.2,UpIn.nil⟩
 ·exact h.elim
theorem zlc {op:BinOp}{t t':TypeId}{x y:Operand}(ho:o.op=.binOp op t x y t') (h:(zao P op t (ρ x) (ρ y)).is e):OpSem P B o ρ m n e∧UpIn m e:=by
 unfold zao at h
 split at h
 ·rename_i a b hx hy
  split at h
  ·cases zV h; exact⟨Vv ho (.inl rfl) hx hy,UpIn.nil⟩
  ·cases zV h; exact⟨Vv ho (.inr rfl) hx hy,UpIn.nil⟩
  ·exact h.elim
 ·rename_i hy
  split at h
  ·rename_i e' b hu hb
   split at h
   ·cases zV h; exact⟨Vy ho (.inl rfl) hb hy hu,UpIn.nil⟩
   ·cases zV h; exact⟨Vy ho (.inr rfl) hb hy hu,UpIn.nil⟩
   ·exact h.elim
  ·exact h.elim
 ·exact h.elim
theorem vX {op:BinOp}{t t':TypeId}{x y:Operand}(ho:o.op=.binOp op t x y t') (h:(v6 P op t (ρ x) (ρ y)).is e):OpSem P B o ρ m n e∧UpIn m e:=by
 unfold v6 at h
 cases hi:zfk (ρ x) (ρ y)<;>rw[hi] at h
 ·exact zqi ho h
 ·exact zlc ho h
theorem zgF (h:(zA3 P o.op ρ m n).is e):OpSem P B o ρ m n e∧UpIn m e:=by
 cases ho:o.op with
 | move x=>rw[ho] at h; cases zV (show (okE (ρ x)).is e from h); exact⟨zap (.inl ho),UpIn.nil⟩
 | assign x=>rw[ho] at h; cases zV (show (okE (ρ x)).is e from h); exact⟨zap (.inr ho),UpIn.nil⟩
 | pick c a b=>rw[ho] at h; exact Ws ho h
 | alloc t=>rw[ho] at h; exact zag ho h
 | box t x=>rw[ho] at h; exact zgA ho h
 | build t ps=>rw[ho] at h; exact zah ho h
 | buildSlice t l ps=>rw[ho] at h; exact zgC ho h
 | load t x=>rw[ho] at h; exact Wp ho h
 | store t a x=>rw[ho] at h; exact zai ho h
 | nilCheck x=>rw[ho] at h; exact Wq ho h
 | binOp op t x y t1=>rw[ho] at h; exact vX ho h
 | unOp op t x=>rw[ho] at h; exact zdn ho h
 | convert s d x=>rw[ho] at h; exact jN ho h
 | fieldAddr t x i=>rw[ho] at h; exact VK ho h
 | indexAddr t x i=>rw[ho] at h; exact qn ho h
 | extract x k=>rw[ho] at h; exact VL ho h
 | makeFunc f a c=>rw[ho] at h; exact zaj ho h
 | slice t x lo hi mx=>rw[ho] at h; exact zak ho h
 | makeSlice t l c=>rw[ho] at h; exact znT ho h
 | index t x ix=>rw[ho] at h; exact Xf ho h
 | field t x k=>rw[ho] at h; exact Qz ho h
 | sliceToArrayPointer t x=>rw[ho] at h; exact zgE ho h
 | call c =>
  rw[ho] at h
  obtain⟨ce,args,ts⟩:=c
  cases ce with
  | builtin b=>exact zbJ ho h
  | _=>exact h.elim
 | _=>rw[ho] at h; exact h.elim
end
end
end Go.Y
namespace Go.Y
open Go.Ab Go.RowKit
noncomputable section
variable [Gl]
inductive BadV (o:Op):Prop
inductive BadN (n:Nat):Prop
omit [Gl] in
theorem BadV.elim {o:Op}{p:Prop}(h:BadV o):p:=(by cases h)
omit [Gl] in
theorem BadN.elim {n:Nat}{p:Prop}(h:BadN n):p:=(by cases h)
def Y0 (cap:Option Nat) (len:Nat):Bool:=match cap with
 | some k=>Nat.beq k len
 | none=>false
abbrev K3:=Exit→Tm→Zm→Nat→Prop
abbrev RUN:=Code→Tm→Zm→Nat→K3→Prop
def zdg (ops:List Oper) (j:Nat):Option Tmp:=(ops[j]?).bind (·.dst)
abbrev zfd:=FuncId→Option CSpec
def Qu (c:CSpec) (l:V):V:=@Bool.rec (fun _=>V) (borrow (c.res (unL l))) (c.res (unL l)) c.fresh
def xd (o:Oper) (k:Nat):Bool:=o.after.any fun e=>Region.binds .any e&&e.on==k
def zbD (o o':Oper) (ops:Array Oper):Bool:=zgn ⟨o,Zl,0,false⟩ ⟨o',Zl,0,false⟩ ops
end
end Go.Y
namespace Go.Y
open Go.Ab Go.RowKit
noncomputable section
variable [Gl]
omit [Gl] in
theorem zac {cap:Option Nat}{len:Nat}(h:Y0 cap len=true):cap=some len:=by
 unfold Y0 at h
 split at h
 ·rw[Nat.eq_of_beq_eq_true h]
 ·cases h
section
variable {B:Nat}{C:Ctx}{M:Mem}
theorem R.row_ro (hs:SR B C M) {id n:Nat}{e:Shape}{blk:Blk}{n1:Nat}{f:Nat→V}{g:V→V}{md:Ab.M}(hM:M id=some blk) (ha:blk.alive=true) (hv:blk.v=.arr n1 f)
  (hg:∀ i,i < n→∀ md,R C (f i) md→R (C.opened B) (g (f i)) md) (hr:R C (.row id e n) md):R (C.opened B) (.ro false false e n fun i=>g (f i)) md:=by
 obtain⟨hal,⟨a,c,h1⟩,h2,h3⟩:=hr
 have hbr:=hs.mem id blk hM
 unfold BR at hbr; unfold Blk.alive at ha
 cases hkd:blk.k<;>simp only[hkd] at hbr ha
 ·obtain⟨g,cur,e',h4,_⟩:=hbr; rw[h1] at h4; cases h4
 ·obtain⟨n2,s2,cells,h4,h5,h6,h7⟩:=hbr
  rw[h4,h5] at h2
  simp only[Shape.arr.injEq] at h2
  obtain⟨rfl,rfl⟩:=h2
  refine⟨a,c,by rw[←h1]; exact h3,?_,(by intro hc; cases hc),?_⟩
  ·rcases h6.2 with ⟨h8,h9⟩ | ⟨g,cap,cur,hv',hg,hh,hnc,_⟩
   ·rw[h1] at h8; cases h8; omega
   ·rw[h1] at hv'; cases hv'; exact hnc
  ·rcases h6.2 with ⟨h8,h9⟩ | ⟨q,cap,cur,hv',hq,hh,hnc,_,hcs,htake⟩
   ·exact .inl h9
   ·right
    rw[h1] at hv'
    simp only[Value.slice.injEq] at hv'
    obtain⟨rfl,_,rfl⟩:=hv'
    refine⟨q,0,rfl,.inr ⟨hq,(Array.getElem?_eq_some_iff.1 hh).1⟩,fun i hi=>?_⟩
    have hb':xl (C.sv id)=some q:=by rw[h1]; rfl
    have hpa:Shape.path [.idx i] (C.shp id)=some (0 + i * s2.size,s2):=by rw[h4,h5]; simp [Shape.path,Shape.step,hi]
    obtain⟨h10,_⟩:=BR.at (hs.mem id blk hM) (by unfold Blk.alive; rw[hkd]) hb' hpa
    rw[hv] at h10
    have h11:R C (f i) (.cel s2 (cg C.w q) (0 + i * s2.size)):=by simpa [V.path,V.step] using h10
    exact hg i hi _ h11
 ·simp at ha
 ·simp at ha
 ·simp at ha
theorem R.sl_ro (hs:SR B C M) {id off len:Nat}{p:List Step}{cap:Option Nat}{e:Shape}{blk:Blk}{n1:Nat}{f:Nat→V}{g:V→V}{md:Ab.M}(hM:M id=some blk) (ha:blk.alive=true) (hv:blk.v.path p=.arr n1 f)
  (hg:∀ i,i < len→∀ md,R C (f (off + i)) md→R (C.opened B) (g (f (off + i))) md) (hr:R C (.sl id p e off len cap) md):R (C.opened B) (.ro false (Y0 cap len) e len fun i=>g (f (off + i))) md:=by
 obtain⟨hal,ad,c,o1,n2,h3,h4,h5,h2,h8,h6⟩:=hr
 refine⟨ad,c,h3,h4,(fun hc=>h5 _ (zac hc)),h6.imp (fun h=>by omega) ?_⟩
 rintro⟨b,h1,h6⟩
 obtain⟨h7,_⟩:=BR.at (hs.mem id blk hM) ha h1 h2
 rw[hv] at h7
 obtain⟨e',q1,h9⟩:=h7
 simp only[Shape.arr.injEq] at q1
 obtain⟨rfl,rfl⟩:=q1
 refine⟨b,o1 + off * e.size,h6,.inr (hs.lt hM (Blk.lv ha) (vz h1)),fun i hi=>?_⟩
 have h10:R C (f (off + i)) (.cel e (cg C.w b) (o1 + off * e.size + i * e.size)):=by rw[Nat.add_assoc,←Nat.add_mul]; exact h9 (off + i) (by omega)
 exact hg i hi _ h10
theorem R.ptr_ref (hs:SR B C M) {id:Nat}{p:List Step}{s:Shape}{blk:Blk}{g:V→V}{md:Ab.M}(hM:M id=some blk) (ha:blk.alive=true)
  (hg:∀ md,R C (blk.v.path p) md→R (C.opened B) (g (blk.v.path p)) md) (hr:R C (.ptr id p s) md):R (C.opened B) (.ref false s (g (blk.v.path p))) md:=by
 obtain⟨hal,b,off,h1,h2,h3⟩:=hr
 obtain⟨h7,_⟩:=BR.at (hs.mem id blk hM) ha h1 h2
 have hlt:=hs.lt hM (Blk.lv ha) (vz h1)
 exact⟨b,off,h3,.inr hlt,hg _ h7⟩
end
end
end Go.Y
