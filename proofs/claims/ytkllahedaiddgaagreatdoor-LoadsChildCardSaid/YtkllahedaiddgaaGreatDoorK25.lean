/- Walks: pieces whose results are told without the memory; blocks. No condition. -/
import Derived.Test.YtkllahedaiddgaaGreatDoorK13
set_option linter.unusedSimpArgs false
set_option linter.unusedVariables false
namespace Go.K
open Go.Ab Go.RowKit Go.Y
noncomputable section
variable [KGl]
omit [KGl] in
theorem VW:∀ {l:List KV},xt l=true→(mkL (l.map KV.v)).bel 0
 | [],_=>trivial
 | x::l,h=>by
  obtain⟨q1,q2⟩:=zd.1 (show nd (zS 0 x) (xt l)=true from h)
  exact⟨(jm 0 _ q1).1,VW q2⟩
omit [KGl] in
theorem R.pur0 {C:Ctx}{v:V}{m:Ab.M}(hb:v.bel 0) (h:R C v m):R C.pur v m :=
 R.keep (C:=C.cut 0) (C':=C.pur) ⟨fun _ h=>absurd h.2 (Nat.not_lt_zero _),fun _ _=>rfl,fun _ _=>rfl,fun _ _ h=>h,fun _ _ _=>rfl⟩ _ _ (R.cut v hb h)
end
end Go.K
namespace Go.K
open Go.Ab Go.RowKit Go.Y
noncomputable section
def zBp (C:Ctx) (ρ:Nat→Nat) (n H:Nat):Ctx:={ C with
 al:=fun id=>(id < n∧C.al (ρ id))∨(H≤id∧C.al (id - H))
 sv:=fun id=>if id < n then C.sv (ρ id) else C.sv (id - H)
 shp:=fun id=>if id < n then C.shp (ρ id) else C.shp (id - H) }
def yh (C:Ctx) (μ:Mem) (F:List Nat) (ρ:Nat→Nat) (n H:Nat):Ctx:={ zBp C ρ n H with ok:=fun u b=>C.ok u b∨(u=true∧∃ id,id∈F∧∃ blk,μ id=some blk∧blk.alive=true∧xl (C.sv id)=some b) }
theorem zfy {C:Ctx}{μ:Mem}{F:List Nat}{ρ:Nat→Nat}{n H:Nat}:Keep C.pur (yh C μ F ρ n H).pur:=⟨fun _ h=>h.elim,fun _ h=>h.elim,fun _ h=>h.elim,fun _ _ h=>.inl h,fun _ _ _=>rfl⟩
variable [KGl]
structure JS (B H N:Nat) (C0:Ctx) (τ:Nat→V) (μ:Mem) (nx:Nat) (a:Act) (C:Ctx) (M:Mem):Prop where
 gr:GR B H C M μ nx
 gt:GT C τ a N
 sd:Side none 0 H C M μ nx a.defers
 kp:Kp B C0 C
section
variable [Gl]
def RnV (μ:Mem) (F:List Nat) (ρ:Nat→Nat) (n:Nat) (v w:V):Prop:=∀ B H C M,n≤H→SR B C M→Sub μ M→∀ x,R C v (.val x)→R (yh C μ F ρ n H) w (.val x)
def RnB (μ:Mem) (F:List Nat) (ρ:Nat→Nat) (n:Nat) (v w:V):Prop:=∀ B H C M,n≤H→SR B C M→Sub μ M→∀ m,R C v m→R (yh C μ F ρ n H) w m
structure Rn (F:List Nat) (ρ:Nat→Nat) (n:Nat) (τ:Nat→V) (μ:Mem) (τ2:Nat→V) (μ2:Mem):Prop where
 tm:∀ t,RnV μ F ρ n (τ t) (τ2 t)
 mm:∀ id c,μ2 id=some c→id < n∧lpK c.k=false∧ρ id ∉ F∧∃ b,μ (ρ id)=some b∧b.k=c.k∧b.sh=c.sh∧RnB μ F ρ n b.v c.v
 inj:∀ i j c d,μ2 i=some c→μ2 j=some d→ρ i=ρ j→i=j
end
theorem JS.ren (hgn:∀ g,vJ (Gl.G g)=true) {B H N:Nat}{C0:Ctx}(h0:∀ id,¬ C0.al id) {τ τ2:Nat→V}{μ μ2:Mem}{nx n:Nat}{a:Act}{C:Ctx}{M:Mem}{F:List Nat}{ρ:Nat→Nat}(h:JS B H N C0 τ μ nx a C M) (hr:Rn F ρ n τ μ τ2 μ2) (hn:n≤H) :
  ∃ D M2,D.w=C.w∧JS B H N C0 τ2 μ2 n a D M2:=by
 let far:Nat→Option Blk:=fun j=>match μ j,M j with
  | none,some ⟨.lp k ps x y,sh,.nilf⟩=>some ⟨.lp k ps x y,sh,.nilf⟩
  | _,_=>none
 have hfar:∀ j c,far j=some c→μ j=none∧M j=some c∧∃ k ps x y sh,c=⟨.lp k ps x y,sh,.nilf⟩:=by
  intro j c hc
  simp only[far] at hc
  split at hc
  ·rename_i k ps x y sh h1 h2
   cases hc
   exact⟨h1,h2,_,_,_,_,_,rfl⟩
  ·cases hc
 let M2:Mem:=fun id=>if id < n then μ2 id else if H≤id then far (id - H) else none
 have hM2:∀ id c,M2 id=some c→(id < n∧μ2 id=some c)∨(n≤id∧H≤id∧far (id - H)=some c):=by
  intro id c hc
  simp only[M2] at hc
  split at hc
  ·rename_i h1; exact .inl ⟨h1,hc⟩
  ·rename_i h1
   split at hc
   ·rename_i h2; exact .inr ⟨by omega,h2,hc⟩
   ·cases hc
 have svl:∀ {id:Nat},id < n→(yh C μ F ρ n H).sv id=C.sv (ρ id):=fun h=>if_pos h
 have shl:∀ {id:Nat},id < n→(yh C μ F ρ n H).shp id=C.shp (ρ id):=fun h=>if_pos h
 have svh:∀ {id:Nat},n≤id→(yh C μ F ρ n H).sv id=C.sv (id - H):=fun h=>if_neg (Nat.not_lt.2 h)
 have low:∀ {id c},μ2 id=some c→∃ b,M (ρ id)=some b∧b.k=c.k∧b.sh=c.sh∧RnB μ F ρ n b.v c.v:=fun {id c} hc=>by
  obtain⟨_,_,_,b,h1,h2⟩:=hr.mm id c hc
  exact⟨b,h.gr.sub _ _ h1,h2⟩
 have live:∀ {b c:Blk},b.k=c.k→c.live=true→b.live=true:=fun e h=>by unfold Blk.live at h ⊢; rw[e]; exact h
 have frz:∀ {id blk b},id∈F→μ id=some blk→blk.alive=true→xl (C.sv id)=some b→M id=some blk∧B≤b∧b < C.w.heap.size:=fun {id blk b} h1 h2 h3 h4 =>
  ⟨h.gr.sub _ _ h2,h.gr.sr.lt (h.gr.sub _ _ h2) (Blk.lv h3) (vz h4)⟩
 refine⟨yh C μ F ρ n H,M2,rfl,⟨⟨h.gr.sr.base,?_,?_,?_,?_,?_,?_⟩,?_,?_⟩,⟨fun t=>hr.tm t B H C M hn h.gr.sr h.gr.sub _ (h.gt.tv t),h.gt.size⟩,⟨?_,h.sd.nd,Nat.zero_le _,fun l hl=>by cases hl⟩,?_⟩
 ·rintro u b (h1 | ⟨_,id,h1,blk,h2,h3,h4⟩)
  ·exact h.gr.sr.okLt u b h1
  ·exact (frz h1 h2 h3 h4).2.2
 ·intro id c hc
  rcases hM2 id c hc with ⟨h1,h2⟩ | ⟨h1,h2,h3⟩
  ·obtain⟨b,h4,_⟩:=low h2
   exact .inl ⟨h1,h.gr.sr.al _ _ h4⟩
  ·exact .inr ⟨h2,h.gr.sr.al _ _ (hfar _ _ h3).2.1⟩
 ·intro id c hc
  rcases hM2 id c hc with ⟨h1,h2⟩ | ⟨h1,h2,h3⟩
  ·obtain⟨b,h4,e1,e2,hv⟩:=low h2
   obtain⟨_,h6,_⟩:=hr.mm id c h2
   have hbr:=h.gr.sr.mem _ _ h4
   have hv':∀ m,R C b.v m→R (yh C μ F ρ n H) c.v m:=hv B H C M hn h.gr.sr h.gr.sub
   obtain⟨k,sh,v⟩:=c
   obtain⟨bk,bsh,bv⟩:=b
   obtain rfl:bk=k:=e1
   obtain rfl:bsh=sh:=e2
   cases bk with
   | box t =>
    obtain⟨g,cur,e,h1',h2',h3',h4',h5',h6',h7'⟩:=hbr
    exact⟨g,cur,e,by rw[svl h1]; exact h1',h2',h3',by rw[shl h1]; exact h4',h5',hv' _ h6',h7'⟩
   | row e =>
    obtain⟨k,s,cells,h1',h2',h3',h4'⟩:=hbr
    exact⟨k,s,cells,by rw[shl h1]; exact h1',h2',by rw[svl h1]; exact h3',hv' _ h4'⟩
   | dead=>trivial
   | lp=>cases h6
   | mp =>
    obtain⟨g,es,clk,h1',h2',h3',h4'⟩:=hbr
    exact⟨g,es,clk,by rw[svl h1]; exact h1',h2',h3',hv' _ h4'⟩
  ·obtain⟨_,h4,k,ps,x,y,sh,rfl⟩:=hfar _ _ h3
   have h5:=h.gr.sr.mem _ _ h4
   rcases (show LoopR B C (id - H) k ps x y .nilf from h5) with ⟨_,_,_,_,_,_,_,_,_,e,_⟩ | ⟨_,D',e1,e2,e3⟩
   ·cases e
   ·exact .inr ⟨rfl,D',by rw[svh h1]; exact e1,e2,e3⟩
 ·intro i j c d b hc hcl hd hdl hb1 hb2
  rcases hM2 i c hc with ⟨h1,h2⟩ | ⟨h1,h2,h3⟩
  ·rw[svl h1] at hb1
   obtain⟨c',h4,h5,_⟩:=low h2
   rcases hM2 j d hd with ⟨g1,g2⟩ | ⟨g1,g2,g3⟩
   ·rw[svl g1] at hb2
    obtain⟨d',g4,g5,_⟩:=low g2
    exact hr.inj i j c d h2 g2 (h.gr.sr.sep _ _ c' d' b h4 (live h5 hcl) g4 (live g5 hdl) hb1 hb2)
   ·rw[svh g1] at hb2
    obtain⟨q1,q2,_⟩:=hfar _ _ g3
    have:=h.gr.sr.sep _ _ c' d b h4 (live h5 hcl) q2 hdl hb1 hb2
    obtain⟨_,_,_,b',q3,_⟩:=hr.mm i c h2
    rw[this,q1] at q3; cases q3
  ·rw[svh h1] at hb1
   obtain⟨q1,q2,_⟩:=hfar _ _ h3
   rcases hM2 j d hd with ⟨g1,g2⟩ | ⟨g1,g2,g3⟩
   ·rw[svl g1] at hb2
    obtain⟨d',g4,g5,_⟩:=low g2
    have:=h.gr.sr.sep _ _ c d' b q2 hcl g4 (live g5 hdl) hb1 hb2
    obtain⟨_,_,_,b',q3,_⟩:=hr.mm j d g2
    rw[←this,q1] at q3; cases q3
   ·rw[svh g1] at hb2
    obtain⟨q3,q4,_⟩:=hfar _ _ g3
    have:=h.gr.sr.sep _ _ c d b q2 hcl q4 hdl hb1 hb2
    omega
 ·rintro id c b hc hcl hb u (hok | ⟨_,fid,f1,blk,f2,f3,f4⟩)
  ·rcases hM2 id c hc with ⟨h1,h2⟩ | ⟨h1,h2,h3⟩
   ·rw[svl h1] at hb
    obtain⟨c',h4,h5,_⟩:=low h2
    exact h.gr.sr.own _ c' b h4 (live h5 hcl) hb u hok
   ·rw[svh h1] at hb
    exact h.gr.sr.own _ c b (hfar _ _ h3).2.1 hcl hb u hok
  ·obtain⟨f5,_⟩:=frz f1 f2 f3 f4
   rcases hM2 id c hc with ⟨h1,h2⟩ | ⟨h1,h2,h3⟩
   ·rw[svl h1] at hb
    obtain⟨c',h4,h5,_⟩:=low h2
    have:=h.gr.sr.sep _ _ c' blk b h4 (live h5 hcl) f5 (Blk.lv f3) hb (vz f4)
    exact (hr.mm id c h2).2.2.1 (by rw[this]; exact f1)
   ·rw[svh h1] at hb
    obtain⟨q1,q2,_⟩:=hfar _ _ h3
    have:=h.gr.sr.sep _ _ c blk b q2 hcl f5 (Blk.lv f3) hb (vz f4)
    rw[this,f2] at q1; cases q1
 ·exact fun g=>R.keep (C:=C.pur) (C':=yh C μ F ρ n H) ⟨fun _ h=>h.elim,fun _ h=>h.elim,fun _ h=>h.elim,fun _ _ h=>.inl h,fun _ _ _=>rfl⟩ _ _ (R.pure_of _ (hgn g) (h.gr.sr.gl g))
 ·intro id c hc
  show (if id < n then μ2 id else if H≤id then far (id - H) else none)=some c
  rw[if_pos (hr.mm id c hc).1]; exact hc
 ·rintro id h1 h2 (⟨h3,_⟩ | ⟨h3,_⟩)
  ·omega
  ·omega
 ·intro d hd
  obtain⟨id,D,k,ps,x,y,sh,g1,g2,g3,g4,g5⟩:=h.sd.df d hd
  refine⟨H + id,D,k,ps,x,y,sh,⟨by omega,.inr ⟨rfl,by omega⟩⟩,?_,?_,?_,g5⟩
  ·cases hz:μ2 (H + id) with
   | none=>rfl
   | some c=>have:=(hr.mm _ c hz).1; omega
  ·show (if H + id < n then μ2 (H + id) else if H≤H + id then far (H + id - H) else none)=_
   rw[if_neg (by omega),if_pos (by omega),Nat.add_sub_cancel_left]
   simp only[far,g2,g3]
  ·rw[svh (by omega),Nat.add_sub_cancel_left]; exact g4
 ·refine⟨⟨fun id hid=>absurd hid (h0 id),fun id hid=>absurd hid (h0 id),fun id hid=>absurd hid (h0 id),fun u b hb=>.inl (h.kp.ok u b hb),h.kp.heap⟩,h.kp.below,?_⟩
  rintro u b (h1 | ⟨_,id,h1,blk,h2,h3,h4⟩)
  ·exact h.kp.okn u b h1
  ·exact .inr (frz h1 h2 h3 h4).2.1
def JRuns (P:Program) (B N:Nat) (c:Code) (τ:Nat→V) (μ:Mem) (nx:Nat) (e:Exit) (τ':Nat→V) (μ':Mem) (nx' hb:Nat):Prop :=
 ∀ H C0 C M a,hb≤H→(∀ id,¬ C0.al id)→JS B H N C0 τ μ nx a C M→c.wpIn (FR none) 0 P (fun e' a' w'=>e'=e∧∃ C' M',C'.w=w'∧JS B H N C0 τ' μ' nx' a' C' M') a C.w
section
variable {P:Program}{B N:Nat}{τ τ':Nat→V}{μ μ':Mem}{nx nx' hb:Nat}{e:Exit}
theorem GRuns.j {c:Code}{mx:Nat}(h:GRuns P B c τ μ nx N e τ' μ' nx' mx):JRuns P B N c τ μ nx e τ' μ' nx' (nx' + mx):=by
 intro H C0 C M a hH h0 hj
 refine wpIn_mono (h none 0 H C M a (by omega) (by omega) hj.gr hj.gt hj.sd) ?_
 rintro e' a' w' ⟨rfl,C',M',rfl,hf⟩
 exact⟨rfl,C',M',rfl,hf.yr,hf.yt,hf.sd,hj.kp.trans hf.yc.kp⟩
theorem JRuns.up {c:Code}{hb':Nat}(h:JRuns P B N c τ μ nx e τ' μ' nx' hb) (hl:hb≤hb'):JRuns P B N c τ μ nx e τ' μ' nx' hb':=fun H C0 C M a hH h0 hj=>h H C0 C M a (by omega) h0 hj
theorem JRuns.ren (hgn:∀ g,vJ (Gl.G g)=true) {c:Code}{F:List Nat}{ρ:Nat→Nat}{τ2:Nat→V}{μ2:Mem}{n:Nat}(h:JRuns P B N c τ μ nx e τ' μ' nx' hb) (hr:Rn F ρ n τ' μ' τ2 μ2):JRuns P B N c τ μ nx e τ2 μ2 n (hb + n):=by
 intro H C0 C M a hH h0 hj
 refine wpIn_mono (h H C0 C M a (by omega) h0 hj) ?_
 rintro e' a' w' ⟨rfl,C',M',rfl,hj'⟩
 obtain⟨D,M2,h1,h2⟩:=hj'.ren hgn h0 hr (by omega)
 exact⟨rfl,D,M2,h1,h2⟩
theorem JRuns.pre (hgn:∀ g,vJ (Gl.G g)=true) {c:Code}{F:List Nat}{ρ:Nat→Nat}{τ2:Nat→V}{μ2:Mem}{n:Nat}(hr:Rn F ρ n τ μ τ2 μ2) (h:JRuns P B N c τ2 μ2 n e τ' μ' nx' hb):JRuns P B N c τ μ nx e τ' μ' nx' (hb + n):=by
 intro H C0 C M a hH h0 hj
 obtain⟨D,M2,h1,h2⟩:=hj.ren hgn h0 hr (by omega)
 rw[←h1]
 exact h H C0 D M2 a (by omega) h0 h2
theorem JRuns.seq {x y:Code}{τ1:Nat→V}{μ1:Mem}{nx1 hb1:Nat}(h:JRuns P B N x τ μ nx .normal τ1 μ1 nx1 hb1) (k:JRuns P B N y τ1 μ1 nx1 e τ' μ' nx' hb):JRuns P B N (.seq x y) τ μ nx e τ' μ' nx' (hb1 + hb):=by
 intro H C0 C M a hH h0 hj
 refine wpIn_seq (wpIn_mono (h H C0 C M a (by omega) h0 hj) ?_)
 rintro e' a' w' ⟨rfl,C',M',rfl,hj'⟩
 refine wpIn_mono (k H C0 C' M' a' (by omega) h0 hj') ?_
 rintro e' a'' w' ⟨rfl,hf⟩
 exact⟨rfl,hf⟩
theorem JRuns.seqX {x y:Code}(he:e≠.normal) (h:JRuns P B N x τ μ nx e τ' μ' nx' hb):JRuns P B N (.seq x y) τ μ nx e τ' μ' nx' hb:=by
 intro H C0 C M a hH h0 hj
 refine wpIn_seq (wpIn_mono (h H C0 C M a hH h0 hj) ?_)
 rintro e' a' w' ⟨rfl,hf⟩
 cases e' with
 | normal=>exact absurd rfl he
 | _=>exact⟨rfl,hf⟩
theorem JRuns.blockE {id:Nat}{x:Code}(h:JRuns P B N x τ μ nx (.exit id) τ' μ' nx' hb):JRuns P B N (.block id x) τ μ nx .normal τ' μ' nx' hb:=by
 intro H C0 C M a hH h0 hj
 refine wpIn_block (wpIn_mono (h H C0 C M a hH h0 hj) ?_)
 rintro e' a' w' ⟨rfl,hf⟩
 simp only[Exit.inBlock,if_true]
 exact⟨trivial,hf⟩
theorem JRuns.blockX {id:Nat}{x:Code}(he:e≠.exit id) (h:JRuns P B N x τ μ nx e τ' μ' nx' hb):JRuns P B N (.block id x) τ μ nx e τ' μ' nx' hb:=by
 intro H C0 C M a hH h0 hj
 refine wpIn_block (wpIn_mono (h H C0 C M a hH h0 hj) ?_)
 rintro e' a' w' ⟨rfl,hf⟩
 cases e' with
 | exit i =>
  have hi:¬ i=id:=fun e1=>he (by rw[e1])
  simp only[Exit.inBlock,hi,if_false]
  exact⟨trivial,hf⟩
 | _=>exact⟨rfl,hf⟩
inductive JLoop (P:Program) (B N:Nat) (c:Code) (e:Exit) (τ':Nat→V) (μ':Mem) (nx' hb:Nat):Nat→(Nat→V)→Mem→Nat→Prop where
 | out {k:Nat}{τ:Nat→V}{μ:Mem}{nx:Nat}(h:JRuns P B N c τ μ nx e τ' μ' nx' hb) (he:e≠.normal):JLoop P B N c e τ' μ' nx' hb (k + 1) τ μ nx
 | round {k:Nat}{τ τ1:Nat→V}{μ μ1:Mem}{nx nx1:Nat}(h:JRuns P B N c τ μ nx .normal τ1 μ1 nx1 hb) (h2:JLoop P B N c e τ' μ' nx' hb k τ1 μ1 nx1):JLoop P B N c e τ' μ' nx' hb (k + 1) τ μ nx
theorem JLoop.up {c:Code}{k hb':Nat}(hl:hb≤hb') (h:JLoop P B N c e τ' μ' nx' hb k τ μ nx):JLoop P B N c e τ' μ' nx' hb' k τ μ nx:=by
 induction h with
 | out h he=>exact .out (h.up hl) he
 | round h _ ih=>exact .round (h.up hl) ih
theorem JLoop.runs {c:Code}{k:Nat}(h:JLoop P B N c e τ' μ' nx' hb k τ μ nx):JRuns P B N (.loop c) τ μ nx e τ' μ' nx' hb:=by
 intro H C0 C M a hH h0 hj
 refine V4 (fun n a w=>∃ C' M' τ1 μ1 nx1,C'.w=w∧JS B H N C0 τ1 μ1 nx1 a C' M'∧JLoop P B N c e τ' μ' nx' hb n τ1 μ1 nx1) k ⟨C,M,τ,μ,nx,rfl,hj,h⟩ ?_
 rintro n a w ⟨C1,M1,τ1,μ1,nx1,rfl,h1,h5⟩
 cases h5 with
 | out hr he =>
  refine wpIn_mono (hr H C0 C1 M1 a hH h0 h1) ?_
  rintro e' a' w' ⟨rfl,hq⟩
  cases e' with
  | normal=>exact absurd rfl he
  | _=>exact⟨rfl,hq⟩
 | @round k _ τ2 _ μ2 _ nx2 hr h7 =>
  refine wpIn_mono (hr H C0 C1 M1 a hH h0 h1) ?_
  rintro e' a' w' ⟨rfl,C2,M2,rfl,hf⟩
  exact⟨k,by omega,C2,M2,τ2,μ2,nx2,rfl,hf,h7⟩
end
end
end Go.K
namespace Go.K
open Go.Ab Go.RowKit Go.Y
noncomputable section
variable [KGl]
section
variable {P:Program}{B N:Nat}
theorem zdF {H:Nat}{C0:Ctx}{μ':Mem}{nx':Nat}{τ':Nat→V}{fn:Func}{v:V}{a:Act}(hv:RAll P τ' μ' fn.results.toList v) :
  ∀(ds:List Deferred) (C1:Ctx) (M1:Mem),(∀ d∈ds,∃ id D k ps x y sh,μ' id=none∧M1 id=some ⟨.lp k ps x y,sh,.nilf⟩∧C1.sv id=.pointer (some ⟨D,0,none⟩)∧d=⟨.collected D,#[]⟩)→ds.Nodup →
   GR B H C1 M1 μ' nx'→Kp B C0 C1→GT C1 τ' a N →
   V6 P fn a.tmps (fun e w'=>∃ val,e=.returned val∧∃ C' M',C'.w=w'∧R C' v (.val val)∧GR B H C' M' μ' nx'∧Kp B C0 C') ds C1.w
 | [],C1,M1,_,_,hz,hc,ht=>by
  obtain⟨val,q1,q2⟩:=hv.s hz ht
  exact⟨val,q1,val,rfl,C1,M1,rfl,q2,hz,hc⟩
 | d::ds,C1,M1,hd,hn,hz,hc,ht=>by
  obtain⟨id,D,k,ps,x,y,sh,h1,h2,h3,h4⟩:=hd d (by simp)
  have hbr:=hz.sr.mem id _ h2
  have hD:B≤D∧C1.w.heap[D]?=some (.deferred (some [])):=by
   rcases (show LoopR B C1 id k ps x y .nilf from hbr) with ⟨_,_,_,_,_,_,_,_,_,e,_⟩ | ⟨_,D',e1,e2,e3⟩
   ·cases e
   ·rw[h3] at e1; cases e1; exact⟨e2,e3⟩
  refine⟨D,h4,hD.2,?_⟩
  obtain⟨q1,q2⟩:=hz.drop h2 rfl (by rw[h3]; rfl) h1 (.deferred none)
  rw[List.nodup_cons] at hn
  refine zdF hv ds _ (upd M1 id none) (fun d' hd'=>?_) hn.2 q1 (hc.trans q2) (ht.keep q2.toKeep)
  obtain⟨id',D',k',ps',x',y',sh',g1,g2,g3,g4⟩:=hd d' (by simp [hd'])
  have hne:id'≠id:=by
   intro e; subst e
   rw[h3] at g3; cases g3
   exact hn.1 (by rw[h4,←g4]; exact hd')
  exact⟨id',D',k',ps',x',y',sh',g1,by rw[zf _ _ hne]; exact g2,g3,g4⟩
end
section
variable {E:KEnv}{B N mask:Nat}
def JW (E:KEnv) (B N mask:Nat) (c:Code) (tr:KTm) (zm:KZ) (nx:Nat) (Q:Exit→KTm→KZ→Nat→Prop):Prop :=
 ∃ e tr' zm' nx' hb,Q e tr' zm' nx'∧MB (am zm') nx'∧INV mask tr'∧JRuns E.P B N c (tv' (zn tr)) (am zm) nx e (tv' (zn tr')) (am zm') nx' hb
variable {c:Code}{tr:KTm}{zm:KZ}{nx:Nat}{Q:Exit→KTm→KZ→Nat→Prop}
theorem JW.mono {Q':Exit→KTm→KZ→Nat→Prop}(h:JW E B N mask c tr zm nx Q) (hq:∀ e tr zm nx,MB (am zm) nx→INV mask tr→Q e tr zm nx→Q' e tr zm nx):JW E B N mask c tr zm nx Q':=by
 obtain⟨e,tr1,zm1,nx1,hb,h1,h2,h3,h4⟩:=h
 exact⟨e,tr1,zm1,nx1,hb,hq _ _ _ _ h2 h3 h1,h2,h3,h4⟩
theorem JW.seq {a b:Code}(h:JW E B N mask a tr zm nx fun e tr zm nx=>(e=.normal∧JW E B N mask b tr zm nx Q)∨(e≠.normal∧Q e tr zm nx)):JW E B N mask (.seq a b) tr zm nx Q:=by
 obtain⟨e,tr1,zm1,nx1,hb,h1,h2,h3,h4⟩:=h
 rcases h1 with ⟨rfl,e2,tr2,zm2,nx2,hb2,q1,q2,q3,q4⟩ | ⟨he,h1⟩
 ·exact⟨e2,tr2,zm2,nx2,_,q1,q2,q3,h4.seq q4⟩
 ·exact⟨e,tr1,zm1,nx1,hb,h1,h2,h3,h4.seqX he⟩
theorem JW.block {id:Nat}(h:JW E B N mask c tr zm nx fun e tr zm nx=>(e=.exit id∧Q .normal tr zm nx)∨(e≠.exit id∧Q e tr zm nx)):JW E B N mask (.block id c) tr zm nx Q:=by
 obtain⟨e,tr1,zm1,nx1,hb,h1,h2,h3,h4⟩:=h
 rcases h1 with ⟨rfl,h1⟩ | ⟨he,h1⟩
 ·exact⟨.normal,tr1,zm1,nx1,hb,h1,h2,h3,h4.blockE⟩
 ·exact⟨e,tr1,zm1,nx1,hb,h1,h2,h3,h4.blockX he⟩
theorem JW.loop {I:Nat→KTm→KZ→Nat→Prop}
  (step:∀ m tr zm nx,I m tr zm nx→MB (am zm) nx→INV mask tr→JW E B N mask c tr zm nx fun e tr' zm' nx'=>(e=.normal∧∃ m',m' < m∧I m' tr' zm' nx')∨(e≠.normal∧Q e tr' zm' nx')) :
  ∀ m tr zm nx,I m tr zm nx→MB (am zm) nx→INV mask tr→JW E B N mask (.loop c) tr zm nx Q:=by
 have key:∀ m tr zm nx,I m tr zm nx→MB (am zm) nx→INV mask tr→∃ e tr' zm' nx' hb k,Q e tr' zm' nx'∧MB (am zm') nx'∧INV mask tr'∧JLoop E.P B N c e (tv' (zn tr')) (am zm') nx' hb k (tv' (zn tr)) (am zm) nx:=by
  intro m
  induction m using Nat.strongRecOn with
  | _ m ih =>
   intro tr zm nx hI hmb hi
   obtain⟨e,tr1,zm1,nx1,hb,h1,h2,h3,h4⟩:=step m tr zm nx hI hmb hi
   rcases h1 with ⟨rfl,m',hm,h5⟩ | ⟨he,h5⟩
   ·obtain⟨e,tr2,zm2,nx2,hb2,k,q1,q2,q3,q4⟩:=ih m' hm tr1 zm1 nx1 h5 h2 h3
    exact⟨e,tr2,zm2,nx2,hb + hb2,k + 1,q1,q2,q3,.round (h4.up (by omega)) (q4.up (by omega))⟩
   ·exact⟨e,tr1,zm1,nx1,hb,1,h5,h2,h3,.out h4 he⟩
 intro m tr zm nx hI hmb hi
 obtain⟨e,tr',zm',nx',hb,k,q1,q2,q3,q4⟩:=key m tr zm nx hI hmb hi
 exact⟨e,tr',zm',nx',hb,q1,q2,q3,q4.runs⟩
def RnT (F:List Nat) (ρ:Nat→Nat) (n:Nat) (tr:KTm) (zm:KZ):List (Nat×KV)→Prop
 | []=>True
 | (t,v)::l=>RnV (am zm) F ρ n (zn tr t).v v.v∧RnT F ρ n tr zm l
def RnK (F:List Nat) (ρ:Nat→Nat) (n:Nat) (zm:KZ) (o:Option KBlk) (b:KBlk):Prop:=∃ b1,o=some b1∧b1.k=b.k∧b1.sh=b.sh∧RnB (am zm) F ρ n b1.v.v b.v.v
def RnZ (F:List Nat) (ρ:Nat→Nat) (n:Nat) (zm:KZ):List (Nat×KBlk)→Prop
 | []=>True
 | (id,b)::l=>(id < n∧lpK b.k=false∧ρ id ∉ F∧RnK F ρ n zm (kb zm (ρ id)) b)∧RnZ F ρ n zm l
def injL (ρ:Nat→Nat):List (Nat×KBlk)→Prop
 | []=>True
 | (id,_)::l=>(∀ x∈l,ρ id≠ρ x.1)∧injL ρ l
structure RnL (F:List Nat) (ρ:Nat→Nat) (n:Nat) (tr:KTm) (zm:KZ) (lt:List (Nat×KV)) (lz:List (Nat×KBlk)):Prop where
 t:RnT F ρ n tr zm lt
 z:RnZ F ρ n zm lz
 i:injL ρ lz
theorem RnT.get {F:List Nat}{ρ:Nat→Nat}{n:Nat}{tr:KTm}{zm:KZ}:∀ {l:List (Nat×KV)},RnT F ρ n tr zm l→∀ t v,(t,v)∈l→RnV (am zm) F ρ n (zn tr t).v v.v
 | [],_,t,v,hm=>by cases hm
 | (d,w)::l,h,t,v,hm=>by
  rcases List.mem_cons.1 hm with h3 | h3
  ·cases h3; exact h.1
  ·exact h.2.get t v h3
theorem RnZ.get {F:List Nat}{ρ:Nat→Nat}{n:Nat}{zm:KZ}:∀ {l:List (Nat×KBlk)},RnZ F ρ n zm l→∀ id b,(id,b)∈l→id < n∧lpK b.k=false∧ρ id ∉ F∧RnK F ρ n zm (kb zm (ρ id)) b
 | [],_,t,v,hm=>by cases hm
 | (d,w)::l,h,t,v,hm=>by
  rcases List.mem_cons.1 hm with h3 | h3
  ·cases h3; exact h.1
  ·exact h.2.get t v h3
omit [KGl] in
theorem injL.get {ρ:Nat→Nat}:∀ {l:List (Nat×KBlk)},injL ρ l→∀ i b j c,(i,b)∈l→(j,c)∈l→ρ i=ρ j→i=j
 | [],_,i,b,j,c,hi,_,_=>by cases hi
 | (d,w)::l,h,i,b,j,c,hi,hj,he=>by
  rcases List.mem_cons.1 hi with h1 | h1
  ·rcases List.mem_cons.1 hj with h2 | h2
   ·cases h1; cases h2; rfl
   ·cases h1; exact absurd he (h.1 _ h2)
  ·rcases List.mem_cons.1 hj with h2 | h2
   ·cases h2; exact absurd he.symm (h.1 _ h1)
   ·exact h.2.get i b j c h1 h2 he
theorem RnL.rn {F:List Nat}{ρ:Nat→Nat}{n:Nat}{tr:KTm}{zm:KZ}{lt:List (Nat×KV)}{lz:List (Nat×KBlk)}(h:RnL F ρ n tr zm lt lz):Rn F ρ n (tv' (zn tr)) (am zm) (tv' (zn (vj lt))) (am (vK lz)) where
 tm:=fun t=>by
  unfold tv'
  rcases Vc (t:=t) (l:=lt) with h1 | ⟨v,h1,h2⟩
  ·rw[h1]; exact fun _ _ _ _ _ _ _ _ _=>trivial
  ·rw[h2]; exact h.t.get t v h1
 mm:=fun id c hc=>by
  unfold am at hc
  rcases zar (id:=id) (l:=lz) with h1 | ⟨b,h1,h2⟩
  ·rw[h1] at hc; cases hc
  ·rw[h2] at hc
   cases hc
   obtain⟨g1,g2,g0,b1,g3,g4,g5,g6⟩:=h.z.get id b h1
   exact⟨g1,g2,g0,b1.b,zJ g3,g4,g5,g6⟩
 inj:=fun i j c d hi hj he=>by
  unfold am at hi hj
  rcases zar (id:=i) (l:=lz) with h1 | ⟨b,h1,h2⟩
  ·rw[h1] at hi; cases hi
  ·rcases zar (id:=j) (l:=lz) with h3 | ⟨b',h3,h4⟩
   ·rw[h3] at hj; cases hj
   ·exact h.i.get i b j b' h1 h3 he
theorem JW.pre (hgn:∀ g,vJ (Gl.G g)=true) {F:List Nat}{ρ:Nat→Nat}{lt:List (Nat×KV)}{lz:List (Nat×KBlk)}{n:Nat}(h1:RnL F ρ n tr zm lt lz) (h:JW E B N mask c (vj lt) (vK lz) n Q):JW E B N mask c tr zm nx Q:=by
 obtain⟨e,tr1,zm1,nx1,hb,hq,h2,h3,h4⟩:=h
 exact⟨e,tr1,zm1,nx1,hb + n,hq,h2,h3,JRuns.pre hgn h1.rn h4⟩
end
section
variable {μ:Mem}{F:List Nat}{ρ:Nat→Nat}{n:Nat}
def RnF (μ:Mem) (F:List Nat) (ρ:Nat→Nat) (n:Nat) (v w:V):Prop:=∀ B H C M,n≤H→SR B C M→Sub μ M→∀ m,R C v m→R (yh C μ F ρ n H).pur w m
theorem RnB.v {v w:V}(h:RnB μ F ρ n v w):RnV μ F ρ n v w:=fun B H C M h1 h2 h3 x hx=>h B H C M h1 h2 h3 _ hx
theorem RnF.b {v w:V}(h:RnF μ F ρ n v w):RnB μ F ρ n v w:=fun B H C M h1 h2 h3 m hm=>R.keep (C:=(yh C μ F ρ n H).pur) (C':=yh C μ F ρ n H) ⟨fun _ h=>h.elim,fun _ h=>h.elim,fun _ h=>h.elim,fun _ _ h=>h,fun _ _ _=>rfl⟩ _ _ (h B H C M h1 h2 h3 m hm)
theorem RnF.nf {v:V}(hb:v.bel 0):RnF μ F ρ n v v:=fun B H C M h1 h2 h3 m hm=>R.keep zfy _ _ (R.pur0 hb hm)
theorem RnB.row {id id' k:Nat}{s:Shape}(h:ρ id=id') (hl:id < n):RnB μ F ρ n (.row id' s k) (.row id s k):=fun B H C M h1 h2 h3 m hm=>by
 subst h
 obtain⟨q0,q1,q2,q3⟩:=hm
 have svl:(yh C μ F ρ n H).sv id=C.sv (ρ id):=if_pos hl
 have shl:(yh C μ F ρ n H).shp id=C.shp (ρ id):=if_pos hl
 exact⟨.inl ⟨hl,q0⟩,by rw[svl]; exact q1,by rw[shl]; exact q2,by rw[svl]; exact q3⟩
theorem RnB.ptr {id id':Nat}{p:List Step}{s:Shape}(h:ρ id=id') (hl:id < n):RnB μ F ρ n (.ptr id' p s) (.ptr id p s):=fun B H C M h1 h2 h3 m hm=>by
 subst h
 obtain⟨q0,b,off,q1,q2,q3⟩:=hm
 have svl:(yh C μ F ρ n H).sv id=C.sv (ρ id):=if_pos hl
 have shl:(yh C μ F ρ n H).shp id=C.shp (ρ id):=if_pos hl
 exact⟨.inl ⟨hl,q0⟩,b,off,by rw[svl]; exact q1,by rw[shl]; exact q2,q3⟩
theorem RnB.cons {a b a' b':V}(h1:RnB μ F ρ n a a') (h2:RnB μ F ρ n b b'):RnB μ F ρ n (.cons a b) (.cons a' b'):=fun B H C M q1 q2 q3 m hm=>R.cons_map (h1 B H C M q1 q2 q3) (h2 B H C M q1 q2 q3) hm
theorem RnB.arr {k:Nat}{f g:Nat→V}(h:∀ i,i < k→RnB μ F ρ n (f i) (g i)):RnB μ F ρ n (.arr k f) (.arr k g):=fun B H C M q1 q2 q3 m hm=>R.arr_map (fun i hi=>h i hi B H C M q1 q2 q3) hm
theorem RnF.row {id k n1:Nat}{e:Shape}{blk:Blk}{f g:Nat→V}(hF:id∈F) (hμ:μ id=some blk) (ha:blk.alive=true) (hv:blk.v=.arr n1 f) (hg:∀ i,i < k→RnF μ F ρ n (f i) (g i)):RnF μ F ρ n (.row id e k) (.ro true false e k g):=fun B H C M q1 hs q3 m hr=>by
 have hM:=q3 _ _ hμ
 obtain⟨hal,⟨a,c,h1⟩,h2,h3⟩:=hr
 have hbr:=hs.mem id blk hM
 unfold BR at hbr; have ha':=ha; unfold Blk.alive at ha'
 cases hkd:blk.k<;>simp only[hkd] at hbr ha'
 ·obtain⟨g,cur,e',h4,_⟩:=hbr; rw[h1] at h4; cases h4
 ·obtain⟨n2,s2,cells,h4,h5,h6,h7⟩:=hbr
  rw[h4,h5] at h2
  simp only[Shape.arr.injEq] at h2
  obtain⟨rfl,rfl⟩:=h2
  refine⟨a,c,by rw[←h1]; exact h3,?_,(by intro hc; cases hc),?_⟩
  ·rcases h6.2 with ⟨h8,h9⟩ | ⟨g,cap,cur,hv',hg,hh,hnc,_⟩
   ·rw[h1] at h8; cases h8; omega
   ·rw[h1] at hv'; cases hv'; exact hnc
  ·rcases h6.2 with ⟨h8,h9⟩ | ⟨q,cap,cur,hv',hq,hh,hnc,_,hcs,htake⟩
   ·exact .inl h9
   ·right
    rw[h1] at hv'
    simp only[Value.slice.injEq] at hv'
    obtain⟨rfl,_,rfl⟩:=hv'
    have hb':xl (C.sv id)=some q:=by rw[h1]; rfl
    refine⟨q,0,rfl,.inr ⟨rfl,id,hF,blk,hμ,ha,hb'⟩,fun i hi=>?_⟩
    have hpa:Shape.path [.idx i] (C.shp id)=some (0 + i * s2.size,s2):=by rw[h4,h5]; simp [Shape.path,Shape.step,hi]
    obtain⟨h10,_⟩:=BR.at (hs.mem id blk hM) (by unfold Blk.alive; rw[hkd]) hb' hpa
    rw[hv] at h10
    have h11:R C (f i) (.cel s2 (cg C.w q) (0 + i * s2.size)):=by simpa [V.path,V.step] using h10
    exact hg i hi B H C M q1 hs q3 _ h11
 ·simp at ha'
 ·simp at ha'
 ·simp at ha'
end
def FzP (br:Bool) (zm:KZ) (v w:KV):Prop:=∀(B:Nat) (C:Ctx) (M:Mem),SR B C M→Sub (am zm) M→∀ m,R C v.v m→R (frC br C B) w.v m
theorem FzP.noref {br:Bool}{zm:KZ}{v:KV}(h:zA v.v=true):FzP br zm v v:=fun B C M h1 h2 m hr=>R.noref _ h hr
theorem FzP.cons {br:Bool}{zm:KZ}{a b a' b':KV}(h1:FzP br zm a a') (h2:FzP br zm b b'):FzP br zm (.cons a b) (.cons a' b'):=fun B C M h3 h4 m hr=>R.cons_map (h1 B C M h3 h4) (h2 B C M h3 h4) hr
theorem FzP.tup {br:Bool}{zm:KZ}{a a':KV}(h1:FzP br zm a a'):FzP br zm (.tup a) (.tup a'):=fun B C M h3 h4 m hr=>R.tup_map (h1 B C M h3 h4) hr
def retJ (E:KEnv) (fn:Func) (br:Bool) (w:KV):Exit→KTm→KZ→Nat→Prop:=fun e tr zm nx=>(e=.normal∨e=.ret)∧∃ v:KV,FzP br zm v w∧RAll E.P (tv' (zn tr)) (am zm) fn.results.toList v.v
theorem retJ.ret {E:KEnv}{fn:Func}{br:Bool}{v w:KV}{tr:KTm}{zm:KZ}{nx:Nat}(h:FzP br zm v w) (hr:RAll E.P (tv' (zn tr)) (am zm) fn.results.toList v.v):retJ E fn br w .ret tr zm nx:=⟨.inr rfl,v,h,hr⟩
def z7 (mask:Nat):Nat→List KV→List (Nat×KV)
 | _,[]=>[]
 | i,v::l=>if xP mask i then (i,v)::z7 mask (i + 1) l else z7 mask (i + 1) l
omit [KGl] in
theorem V7 {mask:Nat}:∀(l:List KV) (i t:Nat) (v:KV),(t,v)∈z7 mask i l→xP mask t=true∧i≤t∧l[t - i]?=some v
 | [],i,t,v,h=>by cases h
 | x::l,i,t,v,h=>by
  unfold z7 at h
  split at h
  ·rename_i hk
   rcases List.mem_cons.1 h with h1 | h1
   ·cases h1; exact⟨hk,Nat.le_refl _,by rw[Nat.sub_self]; rfl⟩
   ·obtain⟨q1,q2,q3⟩:=V7 l (i + 1) t v h1
    exact⟨q1,by omega,by rw[show t - i=(t - (i + 1)) + 1 by omega]; exact q3⟩
  ·obtain⟨q1,q2,q3⟩:=V7 l (i + 1) t v h
   exact⟨q1,by omega,by rw[show t - i=(t - (i + 1)) + 1 by omega]; exact q3⟩
omit [KGl] in
theorem Xq {mask:Nat}:∀(l:List KV) (i:Nat),jR mask (z7 mask i l)=true
 | [],i=>rfl
 | x::l,i=>by
  unfold z7
  split
  ·rename_i hk; exact zd.2 ⟨hk,Xq l (i + 1)⟩
  ·exact Xq l (i + 1)
theorem W1 {E:KEnv}{fid:FuncId}{fn:Func}{c:Code}{mask:Nat}{br:Bool}{args:List KV}{w:KV}(hfn:E.P.funcs[fid]?=some fn) (hb:fn.body=some c)
  (h:∀ B N,fn.ntmps≤N→JW E B N mask c (vj (z7 mask 0 args)) .e 0 (retJ E fn br w)) {C:Ctx}{vals:List Value}(hok:∀ u b,C.ok u b→b < C.w.heap.size) (hg:∀ g,R C.pur (Gl.G g) (.val (.pointer (some ⟨g,0,none⟩)))) (hargs:R C.pur (mkL (args.map KV.v)) (.list vals)) :
  Calls E.P fid vals.toArray C.w fun e w'=>∃ val,e=.returned val∧∃ C',C'.w=w'∧R (frC br C' C.w.heap.size) w.v (.val val)∧Kp C.w.heap.size C.pur C'∧∀ u b,C'.ok u b→b < C'.w.heap.size:=by
 obtain⟨e,tr',zm',nx',hb',hq,h2,h3,h4⟩:=h C.w.heap.size ((args.map KV.v).length + (fn.ntmps - (args.map KV.v).length)) (by omega)
 obtain⟨he,v,hfz,hv⟩:=hq
 have hz:GR C.w.heap.size hb' C.pur (fun _=>none) (am (.e:KZ)) 0 :=
  ⟨⟨Nat.le_refl _,hok,(fun _ _ h=>(by cases h)),(fun _ _ h=>(by cases h)),(fun _ _ _ _ _ h=>(by cases h)),(fun _ _ _ h=>(by cases h)),hg⟩,(fun id b hb=>by rw[J8] at hb; cases hb),fun _ _ _ h=>h⟩
 have hent:=(GT.enter (τ:=zhV (args.map KV.v)) hargs fn.ntmps fun _=>rfl).imp (τ':=tv' (zn (vj (z7 mask 0 args)))) fun t x D hx=>by
  show R D (zn (vj (z7 mask 0 args)) t).v (.val x)
  rcases Vc (t:=t) (l:=z7 mask 0 args) with q | ⟨v,q1,q2⟩
  ·rw[q]; trivial
  ·rw[q2]
   obtain⟨_,_,q3⟩:=V7 _ _ _ _ q1
   rw[Nat.sub_zero] at q3
   unfold zhV at hx
   have hlt:t < args.length:=(List.getElem?_eq_some_iff.1 q3).1
   rw[if_pos (by simpa using hlt),List.getD_eq_getElem?_getD,List.getElem?_map,q3] at hx
   exact hx
 have hlen:vals.length=(args.map KV.v).length:=(wm hargs).1.symm
 have hcall:Calls E.P fid vals.toArray C.w (fun e w'=>∃ val,e=.returned val∧∃ C' M',C'.w=w'∧R C' v.v (.val val)∧GR C.w.heap.size hb' C' M' (am zm') nx'∧Kp C.w.heap.size C.pur C'):=by
  refine yy hfn hb (wpIn_mono (h4 hb' C.pur C.pur (fun _=>none) _ (Nat.le_refl _) (fun _ h=>h) ⟨hz,by simpa [hlen] using hent,⟨(fun d hd=>((by cases hd))),List.nodup_nil,Nat.zero_le _,(fun l hl=>((by cases hl)))⟩,Kp.refl _ _⟩) ?_)
  rintro e' a w' ⟨rfl,C',M',rfl,hf⟩
  exact⟨he,zdF hv a.defers C' M' (fun d hd=>by
   obtain⟨id,D,k,ps,x,y,sh,h1,h2⟩:=hf.sd.df d hd
   exact⟨id,D,k,ps,x,y,sh,h2⟩) hf.sd.nd hf.gr hf.kp hf.gt⟩
 refine hcall.mono ?_
 rintro e w' ⟨val,q1,C2,M2,q2,q3,q4,q5⟩
 exact⟨val,q1,C2,q2,hfz _ _ _ q4.sr q4.sub _ q3,q5,q4.sr.okLt⟩
end
end Go.K
namespace Go.K
open Go.Ab Go.RowKit Go.Y
noncomputable section
variable [KGl]
def JFn (P:Program) (fid:FuncId) (br:Bool) (l:List KV) (w:KV):Prop :=
 ∃(E:KEnv) (fn:Func) (c:Code) (mask:Nat),KOk E∧E.P=P∧P.funcs[fid]?=some fn∧fn.body=some c∧∀ B N,fn.ntmps≤N→JW E B N mask c (vj (z7 mask 0 l)) .e 0 (retJ E fn br w)
theorem zBq {P:Program}{fid:FuncId}{s:zh}(hf:∃ fn,P.funcs[fid]?=some fn∧(fn.name == "runtime.NumGoroutine")=false∧fn.body.isNone=false)
  (h:∀ l K,s l K→∃ w:KV,K w∧JFn P fid false l w):KCS P fid s:=by
 refine⟨hf,fun l K hs=>?_⟩
 obtain⟨w,h1,E,fn,c,mask,hE,rfl,h2,h3,h4⟩:=h l K hs
 have hc:xX E.P fid { pre:=fun l'=>@decide (l'=l.map KV.v) (Classical.propDecidable _),res:=fun _=>w.v,fresh:=true }:=by
  refine⟨hf,fun C l' vals hok hg hargs hpre=>?_⟩
  have hl:l'=l.map KV.v:=@of_decide_eq_true _ (Classical.propDecidable _) hpre
  subst hl
  refine (W1 h2 h3 h4 hok hg hargs).mono ?_
  rintro e w' ⟨val,he,C',rfl,hR,hk,hlt⟩
  refine⟨hk.below,val,he,?_⟩
  refine R.keep (C:=frC false C' C.w.heap.size) ?_ _ _ hR
  exact⟨fun _ h=>h.elim,fun _ h=>h.elim,fun _ h=>h.elim,fun u b hb=>hb.elim (fun h=>by cases h.1) Or.inr,fun _ _ _=>rfl⟩
 refine⟨w,h1,fun B μ nx mx l0 hl0=>?_⟩
 exact vd (B:=B) (μ:=μ) (nx:=nx) (mx:=mx) hE.gn hc rfl hl0 (by rw[wF]; exact @decide_eq_true _ (Classical.propDecidable _) rfl)
theorem zvy {P:Program}{fid:FuncId}{s:zh}(hf:∃ fn,P.funcs[fid]?=some fn∧(fn.name == "runtime.NumGoroutine")=false∧fn.body.isNone=false)
  (h:∀ l K,s l K→∃ w:KV,K w∧JFn P fid true l w):qo P fid s:=by
 refine⟨hf,fun l K hs=>?_⟩
 obtain⟨w,h1,E,fn,c,mask,hE,rfl,h2,h3,h4⟩:=h l K hs
 refine⟨w,h1,fun hb B μ nx mx=>?_⟩
 intro H C M vals hH hH2 hz hl
 have hp:R C.pur (mkL (l.map KV.v)) (.list vals):=R.pur0 (VW hb) hl
 refine (W1 h2 h3 h4 hz.sr.okLt (fun g=>R.pure_of _ (hE.gn g) (hz.sr.gl g)) hp).mono ?_
 rintro e w' ⟨val,he,C',rfl,hR,hk,hlt⟩
 have hbel:Below C.w.heap.size C.w C'.w:=hk.below
 let ok':Bool→Nat→Prop:=fun u b=>(C.ok u b∨(u=true∧C.ok false b))∨(C.w.heap.size≤b∧b < C'.w.heap.size)
 obtain⟨hs2,hk2⟩:=hz.sr.grown hbel ok' (fun u b h=>.inl (.inl h)) (fun u b h=>h)
 refine⟨val,he,{ C with w:=C'.w,ok:=ok' },M,rfl,?_,⟨hs2,hz.sub,fun id h1 h2 h3=>hz.al id h1 h2 h3⟩,⟨hk2,fun id h=>.inl h,fun _ _ h=>⟨rfl,h⟩⟩⟩
 refine R.keep (C:=frC true C' C.w.heap.size) (C':={ C with w:=C'.w,ok:=ok' }) ⟨fun _ h=>h.elim,fun _ h=>h.elim,fun _ h=>h.elim,fun u b hb2=>?_,fun _ _ _=>rfl⟩ _ _ hR
 rcases hb2 with ⟨_,rfl,h6⟩ | h6
 ·rcases hk.okn _ _ h6 with h7 | h7
  ·exact .inl h7
  ·exact .inr ⟨h7,hlt _ _ h6⟩
 ·exact .inr h6
end
end Go.K
namespace Go.K
open Go.Ab Go.RowKit Go.Y
noncomputable section
def fl:Code→List Code
 | .seq a b=>fl a++fl b
 | c=>[c]
variable [KGl]
section
variable {E:KEnv}{B N mask:Nat}
abbrev K4:=Exit→KTm→KZ→Nat→Prop
def JL (E:KEnv) (B N mask:Nat):List Code→KTm→KZ→Nat→K4→Prop
 | [],tr,zm,nx,Q=>Q .normal tr zm nx
 | c::l,tr,zm,nx,Q=>JW E B N mask c tr zm nx fun e tr zm nx=>(e=.normal∧JL E B N mask l tr zm nx Q)∨(e≠.normal∧Q e tr zm nx)
theorem JL.app {l2:List Code}{Q:K4}:∀ {l1:List Code}{tr:KTm}{zm:KZ}{nx:Nat},JL E B N mask (l1++l2) tr zm nx Q→MB (am zm) nx→INV mask tr→JL E B N mask l1 tr zm nx fun e tr zm nx=>(e=.normal∧JL E B N mask l2 tr zm nx Q)∨(e≠.normal∧Q e tr zm nx)
 | [],tr,zm,nx,h,_,_=>.inl ⟨rfl,h⟩
 | c::l1,tr,zm,nx,h,h1,h2=>JW.mono (Q:=fun e tr zm nx=>(e=.normal∧JL E B N mask (l1++l2) tr zm nx Q)∨(e≠.normal∧Q e tr zm nx)) h fun e tr zm nx q1 q2 q=>q.imp (fun q=>⟨q.1,JL.app q.2 q1 q2⟩) fun q=>⟨q.1,.inr q⟩
theorem JL.code {Q:K4}:∀ {c:Code}{tr:KTm}{zm:KZ}{nx:Nat},JL E B N mask (fl c) tr zm nx Q→MB (am zm) nx→INV mask tr→JW E B N mask c tr zm nx Q:=by
 have one:∀ {c:Code}{Q:K4}{tr:KTm}{zm:KZ}{nx:Nat},JL E B N mask [c] tr zm nx Q→JW E B N mask c tr zm nx Q:=fun {c Q tr zm nx} h=>JW.mono (Q:=fun e tr zm nx=>(e=.normal∧JL E B N mask [] tr zm nx Q)∨(e≠.normal∧Q e tr zm nx)) h fun e tr zm nx _ _ q=>q.elim (fun q=>by rw[q.1]; exact q.2) (fun q=>q.2)
 intro c
 induction c generalizing Q with
 | seq a b ih1 ih2 =>
  intro tr zm nx h h1 h2
  refine JW.seq ?_
  refine (ih1 (JL.app (show JL E B N mask (fl a++fl b) tr zm nx Q from h) h1 h2) h1 h2).mono ?_
  intro e tr zm nx q1 q2 q
  exact q.imp (fun q=>⟨q.1,ih2 q.2 q1 q2⟩) fun q=>q
 | _=>intro tr zm nx h _ _; exact one h
def kpre (E:KEnv) (n mask:Nat) (l:List Code):KTm→KZ→Nat→Nat→K3→Prop :=
 @List.rec Code (fun _=>KTm→KZ→Nat→Nat→K3→Prop) (fun tr zm nx mx K=>K .normal tr zm nx mx) (fun a _ ih tr zm nx mx K=>zj E n mask 0 a tr zm nx mx fun e tr zm nx mx=>match e with
  | .normal=>ih tr zm nx mx K
  | e=>K e tr zm nx mx) l
def goQ (mask:Nat) (lt li:List Nat) (Q:K4):Exit→List KV→List (Option KBlk)→Nat→Prop:=fun e vs bs nx=>∀ tr zm,lt.map (zn tr)=vs→li.map (kb zm)=bs→MB (am zm) nx→INV mask tr→Q e tr zm nx
def nxt (E:KEnv) (B N mask:Nat) (l:List Code) (Q:K4):K4:=fun e tr zm nx=>match e with
 | .normal=>JL E B N mask l tr zm nx Q
 | e=>Q e tr zm nx
theorem JL.kpre (hE:KOk E) {n:Nat}{l2:List Code}{Q:K4}{K:K3}(hK:∀ e tr zm nx mx,K e tr zm nx mx→MB (am zm) nx→INV mask tr→nxt E B N mask l2 Q e tr zm nx):∀ {l1:List Code}{tr:KTm}{zm:KZ}{nx mx:Nat},Go.K.kpre E n mask l1 tr zm nx mx K→(l1.all fun c=>cOk N c)=true→MB (am zm) nx→INV mask tr→JL E B N mask (l1++l2) tr zm nx Q
 | [],tr,zm,nx,mx,h,hc,h1,h2=>hK _ _ _ _ _ h h1 h2
 | c::l1,tr,zm,nx,mx,h,hc,h1,h2=>by
  simp only[List.all_cons,Bool.and_eq_true] at hc
  show JW E B N mask c tr zm nx _
  obtain⟨e,tr',zm',nx',mx',q1,q2,q3,q4⟩:=ZJ (B:=B) hE n mask 0 c tr zm nx mx _ N (show zj E n mask 0 c tr zm nx mx _ from h) hc.1 h1 (Nat.zero_le _) h2
  refine⟨e,tr',zm',nx',_,?_,q2.mb,q3,q4.j⟩
  cases e with
  | normal=>exact .inl ⟨rfl,JL.kpre hE hK q1 hc.2 q2.mb q3⟩
  | exit i=>exact .inr ⟨by simp,hK _ _ _ _ _ q1 q2.mb q3⟩
  | goto i=>exact .inr ⟨by simp,hK _ _ _ _ _ q1 q2.mb q3⟩
  | ret=>exact .inr ⟨by simp,hK _ _ _ _ _ q1 q2.mb q3⟩
  | panic i=>exact .inr ⟨by simp,hK _ _ _ _ _ q1 q2.mb q3⟩
  | outgrown=>exact .inr ⟨by simp,hK _ _ _ _ _ q1 q2.mb q3⟩
def zfw (P:Program) (rs:List ResultVar) (lt li:List Nat) (Q:Exit→List KV→List (Option KBlk)→Nat→Prop) (R:KV→List (Option KBlk)→Nat→Prop):K3:=fun e tr zm nx mx=>match e with
 | .ret=>zfs P rs (fun v zm nx _=>R v (li.map (kb zm)) nx) .ret tr zm nx mx
 | e=>Q e (lt.map (zn tr)) (li.map (kb zm)) nx
def goR (P:Program) (rs:List ResultVar) (mask:Nat) (li:List Nat) (Q:K4):KV→List (Option KBlk)→Nat→Prop:=fun v bs nx=>∀ tr zm,li.map (kb zm)=bs→MB (am zm) nx→INV mask tr→RAll P (tv' (zn tr)) (am zm) rs v.v→Q .ret tr zm nx
omit [KGl] in
theorem zaD {n N:Nat}(h:n≤N) {l:List Code}(hl:(l.all fun c=>cOk n c)=true):(l.all fun c=>cOk N c)=true:=by
 rw[List.all_eq_true] at hl ⊢
 exact fun c hc=>vx h (hl c hc)
theorem JL.goR (hE:KOk E) {P:Program}(hP:E.P=P) {n nt:Nat}(rs:List ResultVar) (lt li:List Nat) {l1 l2:List Code}{Q:K4}{lt0:List (Nat×KV)}{lz0:List (Nat×KBlk)}{n0:Nat}(hN:nt≤N) (hO:(l1.all fun c=>cOk nt c)=true) (h1:nd (ltL n0 lz0) (jR mask lt0)=true)
  (h:Go.K.kpre E n mask l1 (vj lt0) (vK lz0) n0 0 (zfw P rs lt li (goQ mask lt li (nxt E B N mask l2 Q)) (Go.K.goR P rs mask li Q))):JL E B N mask (l1++l2) (vj lt0) (vK lz0) n0 Q:=by
 obtain⟨q1,q2⟩:=zd.1 h1
 refine JL.kpre hE (fun e tr zm nx mx hk m1 m2=>?_) h (zaD hN hO) (MB.mk q1) (INV.mk q2)
 cases e with
 | ret =>
  have hk:zfs P rs (fun v zm nx _=>Go.K.goR P rs mask li Q v (li.map (kb zm)) nx) .ret tr zm nx mx:=hk
  obtain⟨_,v,r1,r2⟩:=zbO hk
  exact r1 tr zm rfl m1 m2 r2
 | normal=>exact hk tr zm rfl rfl m1 m2
 | exit i=>exact hk tr zm rfl rfl m1 m2
 | goto i=>exact hk tr zm rfl rfl m1 m2
 | panic i=>exact hk tr zm rfl rfl m1 m2
 | outgrown=>exact hk tr zm rfl rfl m1 m2
theorem JL.pre (hgn:∀ g,vJ (Gl.G g)=true) {l:List Code}{Q:K4}{F:List Nat}{ρ:Nat→Nat}{tr:KTm}{zm:KZ}{nx:Nat}{lt:List (Nat×KV)}{lz:List (Nat×KBlk)}{n:Nat}(h1:RnL F ρ n tr zm lt lz) (h:JL E B N mask l (vj lt) (vK lz) n Q) (hne:l≠[]):JL E B N mask l tr zm nx Q:=by
 cases l with
 | nil=>exact absurd rfl hne
 | cons c l=>exact JW.pre hgn h1 h
abbrev LS:=List (Nat×KV)×List (Nat×KBlk)×Nat
def atS (mask:Nat) (s:LS) (tr:KTm) (zm:KZ):Prop:=∃ F ρ,RnL F ρ s.2.2 tr zm s.1 s.2.1
theorem JL.loop (hgn:∀ g,vJ (Gl.G g)=true) {σ:Type}(S:σ→LS) (vr:σ→Nat) (I:σ→Prop) (hS:∀ s,nd (ltL (S s).2.2 (S s).2.1) (jR mask (S s).1)=true) {id:Nat}{b:Code}{l2:List Code}{Q:K4}{tr:KTm}{zm:KZ}{nx:Nat}(s0:σ) (hI:I s0) (h0:atS mask (S s0) tr zm) (h1:MB (am zm) nx) (h2:INV mask tr)
  (step:∀ s,I s→JL E B N mask (fl b) (vj (S s).1) (vK (S s).2.1) (S s).2.2 fun e tr zm nx=>match e with
   | .normal=>∃ s',vr s' < vr s∧I s'∧atS mask (S s') tr zm
   | .exit i=>if i=id then JL E B N mask l2 tr zm nx Q else Q (.exit i) tr zm nx
   | e=>Q e tr zm nx):JL E B N mask (.block id (.loop b)::l2) tr zm nx Q:=by
 show JW E B N mask _ tr zm nx _
 refine JW.block ?_
 let P:K4:=fun e tr zm nx=>match e with
  | .normal=>False
  | .exit i=>if i=id then JL E B N mask l2 tr zm nx Q else Q (.exit i) tr zm nx
  | e=>Q e tr zm nx
 have hl:JW E B N mask (.loop b) (vj (S s0).1) (vK (S s0).2.1) (S s0).2.2 P:=by
  refine JW.loop (I:=fun m tr zm nx=>∃ s,I s∧m=vr s∧tr=vj (S s).1∧zm=vK (S s).2.1∧nx=(S s).2.2) ?_ (vr s0) _ _ _ ⟨s0,hI,rfl,rfl,rfl,rfl⟩ (MB.mk (zd.1 (hS s0)).1) (INV.mk (zd.1 (hS s0)).2)
  rintro m tr zm nx ⟨s,hs,rfl,rfl,rfl,rfl⟩ m1 m2
  have h3:=JL.code (step s hs) m1 m2
  obtain⟨e,tr1,zm1,nx1,hb,q1,q2,q3,q4⟩:=h3
  cases e with
  | normal =>
   obtain⟨s',k1,k2,F,ρ,k3⟩:=q1
   have hrn:=k3.rn
   have:=zd.1 (hS s')
   exact⟨.normal,vj (S s').1,vK (S s').2.1,(S s').2.2,_,.inl ⟨rfl,vr s',k1,s',k2,rfl,rfl,rfl,rfl⟩,MB.mk this.1,INV.mk this.2,q4.ren hgn hrn⟩
  | exit i=>exact⟨_,tr1,zm1,nx1,hb,.inr ⟨by simp,q1⟩,q2,q3,q4⟩
  | goto i=>exact⟨_,tr1,zm1,nx1,hb,.inr ⟨by simp,q1⟩,q2,q3,q4⟩
  | ret=>exact⟨_,tr1,zm1,nx1,hb,.inr ⟨by simp,q1⟩,q2,q3,q4⟩
  | panic i=>exact⟨_,tr1,zm1,nx1,hb,.inr ⟨by simp,q1⟩,q2,q3,q4⟩
  | outgrown=>exact⟨_,tr1,zm1,nx1,hb,.inr ⟨by simp,q1⟩,q2,q3,q4⟩
 obtain⟨F,ρ,hr⟩:=h0
 refine (JW.pre hgn hr hl).mono ?_
 intro e tr zm nx m1 m2 hp
 cases e with
 | normal=>exact hp.elim
 | exit i =>
  have hp:if i=id then JL E B N mask l2 tr zm nx Q else Q (.exit i) tr zm nx:=hp
  by_cases hi:i=id
  ·subst hi
   rw[if_pos rfl] at hp
   exact .inl ⟨rfl,.inl ⟨rfl,hp⟩⟩
  ·rw[if_neg hi] at hp
   exact .inr ⟨by simpa using hi,.inr ⟨by simp,hp⟩⟩
 | goto i=>exact .inr ⟨by simp,.inr ⟨by simp,hp⟩⟩
 | ret=>exact .inr ⟨by simp,.inr ⟨by simp,hp⟩⟩
 | panic i=>exact .inr ⟨by simp,.inr ⟨by simp,hp⟩⟩
 | outgrown=>exact .inr ⟨by simp,.inr ⟨by simp,hp⟩⟩
end
end
end Go.K
namespace Go.K
open Go.Ab Go.RowKit Go.Y
noncomputable section
variable [KGl]
def zqw (F:List Nat) (ρ:Nat→Nat) (n:Nat) (zm:KZ):List KV→List (Nat×KV)→Prop
 | v::vs,(_,w)::l=>RnV (am zm) F ρ n v.v w.v∧zqw F ρ n zm vs l
 | [],[]=>True
 | _,_=>False
theorem RnT.of {F:List Nat}{ρ:Nat→Nat}{n:Nat}{zm:KZ}{tr:KTm}:∀ {l:List (Nat×KV)}{vs:List KV},(l.map (·.1)).map (zn tr)=vs→zqw F ρ n zm vs l→RnT F ρ n tr zm l
 | [],_,_,_=>trivial
 | (t,w)::l,[],h,_=>by cases h
 | (t,w)::l,v::vs,h,hr=>by
  rw[List.map_cons,List.map_cons] at h
  injection h with h1 h2
  exact⟨by rw[h1]; exact hr.1,RnT.of h2 hr.2⟩
def zbU (F:List Nat) (ρ:Nat→Nat) (n:Nat):List (Nat×KBlk)→Bool
 | []=>true
 | (id,b)::l=>nd (Nat.blt id n) (nd (!lpK b.k) (nd (!(F.any fun x=>Nat.beq x (ρ id))) (nd (l.all fun x=>!(Nat.beq (ρ id) (ρ x.1))) (zbU F ρ n l))))
def zqx (F:List Nat) (ρ:Nat→Nat) (n:Nat) (zm:KZ):List (Option KBlk)→List (Nat×KBlk)→Prop
 | o::os,(_,b)::l=>RnK F ρ n zm o b∧zqx F ρ n zm os l
 | [],[]=>True
 | _,_=>False
omit [KGl] in
theorem zqy {a b:Nat}(h:(!(Nat.beq a b))=true):a≠b:=fun e=>by rw[e,Nat.beq_refl] at h; cases h
theorem RnZ.of {F:List Nat}{ρ:Nat→Nat}{n:Nat}{zm:KZ}:∀ {l:List (Nat×KBlk)}{os:List (Option KBlk)},(l.map fun x=>ρ x.1).map (kb zm)=os→zbU F ρ n l=true→zqx F ρ n zm os l→RnZ F ρ n zm l∧injL ρ l
 | [],_,_,_,_=>⟨trivial,trivial⟩
 | (t,w)::l,[],h,_,_=>by cases h
 | (t,w)::l,v::vs,h,hz,hr=>by
  rw[List.map_cons,List.map_cons] at h
  injection h with h1 h2
  obtain⟨z1,z⟩:=zd.1 (show nd _ _=true from hz)
  obtain⟨z2,z⟩:=zd.1 z
  obtain⟨z3,z⟩:=zd.1 z
  obtain⟨z4,z⟩:=zd.1 z
  obtain⟨q1,q2⟩:=RnZ.of h2 z hr.2
  refine⟨⟨⟨xZ.1 z1,by simpa using z2,fun hm=>?_,by rw[h1]; exact hr.1⟩,q1⟩,fun x hx=>zqy (List.all_eq_true.1 z4 x hx),q2⟩
  have:(F.any fun x=>Nat.beq x (ρ t))=true:=List.any_eq_true.2 ⟨_,hm,Nat.beq_refl _⟩
  rw[this] at z3; cases z3
section
variable {F:List Nat}{ρ:Nat→Nat}{n:Nat}{zm:KZ}
theorem nfB {v:KV}(h:zS 0 v=true):RnB (am zm) F ρ n v.v v.v:=(RnF.nf (jm 0 v h).1).b
theorem nfV {v:KV}(h:zS 0 v=true):RnV (am zm) F ρ n v.v v.v:=(nfB h).v
theorem RnK.mk' {b1 b:KBlk}(h1:b1.k=b.k) (h2:b1.sh=b.sh) (h:RnB (am zm) F ρ n b1.v.v b.v.v):RnK F ρ n zm (some b1) b:=⟨b1,rfl,h1,h2,h⟩
theorem RnK.nf {b:KBlk}(h:zS 0 b.v=true):RnK F ρ n zm (some b) b:=⟨b,rfl,rfl,rfl,nfB h⟩
end
theorem atS.of {mask:Nat}{s:LS}{tr:KTm}{zm:KZ}(F:List Nat) (ρ:Nat→Nat) {vs:List KV}{os:List (Option KBlk)}(h1:(s.1.map (·.1)).map (zn tr)=vs) (h2:(s.2.1.map fun x=>ρ x.1).map (kb zm)=os) (h3:zbU F ρ s.2.2 s.2.1=true) (h4:zqw F ρ s.2.2 zm vs s.1) (h5:zqx F ρ s.2.2 zm os s.2.1):atS mask s tr zm:=by
 obtain⟨q1,q2⟩:=RnZ.of h2 h3 h5
 exact⟨F,ρ,⟨RnT.of h1 h4,q1,q2⟩⟩
theorem retJ.mk {E:KEnv}{P:Program}{fn:Func}{rs:List ResultVar}{br:Bool}{v w:KV}{tr:KTm}{zm:KZ}{nx:Nat}(hP:E.P=P) (hrs:fn.results.toList=rs) (h:FzP br zm v w) (hr:RAll P (tv' (zn tr)) (am zm) rs v.v):retJ E fn br w .ret tr zm nx:=by
 subst hP; subst hrs
 exact retJ.ret h hr
omit [KGl] in
theorem ltk {a b:Nat}(h:Nat.blt a b=true):a < b:=xZ.1 h
omit [KGl] in
theorem jS {a b:Nat}:ltI (.ofNat a) (.ofNat b)=true↔a < b:=(show (Nat.blt a b=true)↔a < b from xZ)
omit [KGl] in
theorem zog {a b:Nat}:ltI (.ofNat a) (.ofNat b)=false↔b≤a:=by
 rw[←Bool.not_eq_true,jS]; exact Nat.not_lt
omit [KGl] in
theorem j8 {a b:Nat}:leI (.ofNat a) (.ofNat b)=true↔a≤b:=(show (Nat.ble a b=true)↔a≤b from ⟨Nat.le_of_ble_eq_true,Nat.ble_eq_true_of_le⟩)
omit [KGl] in
theorem zvm {a b:Nat}:leI (.ofNat a) (.ofNat b)=false↔b < a:=by
 rw[←Bool.not_eq_true,j8]; exact Nat.not_le
omit [KGl] in
theorem wB {a b:Nat}:eqI (.ofNat a) (.ofNat b)=true↔a=b:=(show (Nat.beq a b=true)↔a=b from ⟨Nat.eq_of_beq_eq_true,fun h=>by rw[h]; exact Nat.beq_refl b⟩)
omit [KGl] in
theorem zvn {a n:Nat}:ixB (.ofNat a) n=true↔a < n:=(show (Nat.blt a n=true)↔a < n from xZ)
omit [KGl] in
theorem XP {a b:Nat}:Nat.blt a b=true↔a < b:=xZ
omit [KGl] in
theorem ja {a b:Nat}:Nat.ble a b=true↔a≤b:=⟨Nat.le_of_ble_eq_true,Nat.ble_eq_true_of_le⟩
theorem JL.preS {E:KEnv}{B N mask:Nat}(hE:KOk E) {s:LS}{l:List Code}{Q:K4}{tr:KTm}{zm:KZ}{nx:Nat}(h0:atS mask s tr zm) (hne:l≠[]) (h:JL E B N mask l (vj s.1) (vK s.2.1) s.2.2 Q):JL E B N mask l tr zm nx Q:=by
 obtain⟨F,ρ,h0⟩:=h0
 exact JL.pre hE.gn h0 h hne
def neN (l:List Code):Bool:=match l with
 | []=>false
 | _=>true
omit [KGl] in
theorem vp {l:List Code}(h:neN l=true):l≠[]:=fun e=>by rw[e] at h; cases h
theorem JL.loopT {E:KEnv}{B N mask:Nat}(hE:KOk E) {σ:Type}(S:σ→LS) (vr:σ→Nat) (I:σ→Prop) {id:Nat}{b:Code}{l l2:List Code}(hl:l=.block id (.loop b)::l2) (hS:∀ s,nd (ltL (S s).2.2 (S s).2.1) (jR mask (S s).1)=true) {Q:K4}{tr:KTm}{zm:KZ}{nx:Nat}(s0:σ) (hI:I s0) (h0:atS mask (S s0) tr zm) (h1:MB (am zm) nx) (h2:INV mask tr)
  (step:∀ s,I s→JL E B N mask (fl b) (vj (S s).1) (vK (S s).2.1) (S s).2.2 fun e tr zm nx=>match e with
   | .normal=>∃ s',vr s' < vr s∧I s'∧atS mask (S s') tr zm
   | .exit i=>if i=id then JL E B N mask l2 tr zm nx Q else Q (.exit i) tr zm nx
   | e=>Q e tr zm nx):JL E B N mask l tr zm nx Q:=by
 rw[hl]
 exact JL.loop hE.gn S vr I hS s0 hI h0 h1 h2 step
theorem JFn.of {E:KEnv}(hE:KOk E) {P:Program}(hP:E.P=P) {fid:FuncId}{br:Bool}{l:List KV}{w:KV}{fn:Func}{c:Code}(mask:Nat) (hfn:P.funcs[fid]?=some fn) (hb:fn.body=some c)
  (h:∀ B N,fn.ntmps≤N→JL E B N mask (fl c) (vj (z7 mask 0 l)) (vK []) 0 (retJ E fn br w)):JFn P fid br l w :=
 ⟨E,fn,c,mask,hE,hP,hfn,hb,fun B N hN=>JL.code (h B N hN) (by rw[J8]; exact qg 0) (INV.mk (Xq l 0))⟩
def xM {α:Type}(args:α→List KV) (pre:α→Prop) (res:α→KV):zh:=fun l K=>∃ x,l=args x∧pre x∧K (res x)
theorem Xn {P:Program}{fid:FuncId}{α:Type}{args:α→List KV}{pre:α→Prop}{res:α→KV}(hf:∃ fn,P.funcs[fid]?=some fn∧(fn.name == "runtime.NumGoroutine")=false∧fn.body.isNone=false)
  (h:∀ x,pre x→JFn P fid false (args x) (res x)):KCS P fid (xM args pre res):=zBq hf fun l K hs=>by
 obtain⟨x,rfl,h1,h2⟩:=hs
 exact⟨res x,h2,h x h1⟩
theorem jC {P:Program}{fid:FuncId}{α:Type}{args:α→List KV}{pre:α→Prop}{res:α→KV}(hf:∃ fn,P.funcs[fid]?=some fn∧(fn.name == "runtime.NumGoroutine")=false∧fn.body.isNone=false)
  (h:∀ x,pre x→JFn P fid true (args x) (res x)):qo P fid (xM args pre res):=zvy hf fun l K hs=>by
 obtain⟨x,rfl,h1,h2⟩:=hs
 exact⟨res x,h2,h x h1⟩
theorem FzP.row {br:Bool}{zm:KZ}{id k n1:Nat}{e:Shape}{b:KBlk}{w:KV}{f:Nat→V}(hb:kb zm id=some b) (ha:wg b.k=true) (hv:b.v.v=.arr n1 f) (hg:∀ i,i < k→∀ B C M,SR B C M→Sub (am zm) M→∀ m,R C (f i) m→R (frC br C B) (w.v.step (.idx i)) m):FzP br zm (.row id e k) (.ro true false e 0 k w):=fun B C M h1 h2 m hr =>
 R.row_fr h1 (h2 _ _ (zJ hb)) ((xk b.k b.sh b.v.v).trans ha) hv (fun i hi md hm=>by rw[Nat.zero_add]; exact hg i hi B C M h1 h2 md hm) hr
def FzE (br:Bool) (zm:KZ) (x y:V):Prop:=∀ B C M,SR B C M→Sub (am zm) M→∀ m,R C x m→R (frC br C B) y m
theorem FzE.noref {br:Bool}{zm:KZ}{x:V}(h:zA x=true):FzE br zm x x:=fun B C M h1 h2 m hr=>R.noref _ h hr
theorem FzP.sl {br:Bool}{zm:KZ}{id off k n1:Nat}{p:List Step}{cap:Option Nat}{e:Shape}{b:KBlk}{w:KV}{f:Nat→V}(hb:kb zm id=some b) (ha:wg b.k=true) (hp:yF p b.v=true) (hv:(jd p b.v).v=.arr n1 f) (hg:∀ i,i < k→FzE br zm (f (off + i)) (w.v.step (.idx i))):FzP br zm (.sl id p e off k cap) (.ro true false e 0 k w):=fun B C M h1 h2 m hr=>by
 have q:=R.sl_fr (br:=br) (B:=B) (u:=true) (g:=fun i=>w.v.step (.idx i)) h1 (h2 _ _ (zJ hb)) ((xk b.k b.sh b.v.v).trans ha) (by show V.path p b.v.v=_; rw[←v4 p _ hp]; exact hv) (fun i hi md hm=>hg i hi B C M h1 h2 md hm) hr
 obtain⟨a,c,q1,q2,_,q4⟩:=q
 exact⟨a,c,q1,q2,(fun h=>by cases h),q4.imp (fun h=>h) fun⟨b,o,r1,r2,r3⟩=>⟨b,o,r1,r2,fun i hi=>by
  have:=r3 i hi
  show R (frC br C B).pur (w.v.step (.idx (0 + i))) _
  rw[Nat.zero_add]; exact this⟩⟩
theorem JL.goY {E:KEnv}{B N mask:Nat}(hE:KOk E) {P:Program}(hP:E.P=P) {n nt:Nat}(rs:List ResultVar) (lt li:List Nat) {l1 l2:List Code}{Q:K4}{lt0:List (Nat×KV)}{lz0:List (Nat×KBlk)}{n0:Nat}(hN:nt≤N) (hO:(l1.all fun c=>cOk nt c)=true) (h1:nd (ltL n0 lz0) (jR mask lt0)=true)
  (R':KV→Prop) (hR:∀ v tr zm nx,R' v→MB (am zm) nx→INV mask tr→RAll P (tv' (zn tr)) (am zm) rs v.v→Q .ret tr zm nx)
  (h:Go.K.kpre E n mask l1 (vj lt0) (vK lz0) n0 0 (zfw P rs lt li (goQ mask lt li (nxt E B N mask l2 Q)) (fun v _ _=>R' v))):JL E B N mask (l1++l2) (vj lt0) (vK lz0) n0 Q:=by
 obtain⟨q1,q2⟩:=zd.1 h1
 refine JL.kpre hE (fun e tr zm nx mx hk m1 m2=>?_) h (zaD hN hO) (MB.mk q1) (INV.mk q2)
 cases e with
 | ret =>
  have hk:zfs P rs (fun v zm nx _=>R' v) .ret tr zm nx mx:=hk
  obtain⟨_,v,r1,r2⟩:=zbO hk
  exact hR v tr zm nx r1 m1 m2 r2
 | normal=>exact hk tr zm rfl rfl m1 m2
 | exit i=>exact hk tr zm rfl rfl m1 m2
 | goto i=>exact hk tr zm rfl rfl m1 m2
 | panic i=>exact hk tr zm rfl rfl m1 m2
 | outgrown=>exact hk tr zm rfl rfl m1 m2
theorem JL.stp {E:KEnv}{B N mask:Nat}(hE:KOk E) {P:Program}(hP:E.P=P) (k:Nat) {n nt:Nat}(rs:List ResultVar) (lt li:List Nat) {l:List Code}{Q:K4}{s:LS}(hN:nt≤N) (hO:((l.take k).all fun c=>cOk nt c)=true) (h1:nd (ltL s.2.2 s.2.1) (jR mask s.1)=true)
  (R':KV→Prop) (hR:∀ v tr zm nx,R' v→MB (am zm) nx→INV mask tr→RAll P (tv' (zn tr)) (am zm) rs v.v→Q .ret tr zm nx)
  (h:Go.K.kpre E n mask (l.take k) (vj s.1) (vK s.2.1) s.2.2 0 (zfw P rs lt li (goQ mask lt li (nxt E B N mask (l.drop k) Q)) (fun v _ _=>R' v))):JL E B N mask l (vj s.1) (vK s.2.1) s.2.2 Q:=by
 have:=JL.goY (B:=B) (l2:=l.drop k) (Q:=Q) hE hP rs lt li hN hO h1 R' hR h
 rwa [List.take_append_drop] at this
theorem JL.all {E:KEnv}{B N mask:Nat}(hE:KOk E) {P:Program}(hP:E.P=P) {n nt:Nat}(rs:List ResultVar) (lt li:List Nat) {l:List Code}{Q:K4}{s:LS}(hN:nt≤N) (hO:(l.all fun c=>cOk nt c)=true) (h1:nd (ltL s.2.2 s.2.1) (jR mask s.1)=true)
  (R':KV→Prop) (hR:∀ v tr zm nx,R' v→MB (am zm) nx→INV mask tr→RAll P (tv' (zn tr)) (am zm) rs v.v→Q .ret tr zm nx)
  (h:Go.K.kpre E n mask l (vj s.1) (vK s.2.1) s.2.2 0 (zfw P rs lt li (goQ mask lt li Q) (fun v _ _=>R' v))):JL E B N mask l (vj s.1) (vK s.2.1) s.2.2 Q:=by
 have hq:nxt E B N mask [] Q=Q:=by
  funext e tr zm nx
  cases e<;>rfl
 have:=JL.goY (B:=B) (l1:=l) (l2:=[]) (Q:=Q) hE hP rs lt li hN hO h1 R' hR (by rw[hq]; exact h)
 rwa [List.append_nil] at this
theorem JL.blk {E:KEnv}{B N mask:Nat}{id:Nat}{X:Code}{l l2:List Code}(hl:l=.block id X::l2) {Q:K4}{tr:KTm}{zm:KZ}{nx:Nat}(h1:MB (am zm) nx) (h2:INV mask tr)
  (h:JL E B N mask (fl X) tr zm nx fun e tr zm nx=>match e with
   | .normal=>JL E B N mask l2 tr zm nx Q
   | .exit i=>if i=id then JL E B N mask l2 tr zm nx Q else Q (.exit i) tr zm nx
   | e=>Q e tr zm nx):JL E B N mask l tr zm nx Q:=by
 subst hl
 show JW E B N mask _ tr zm nx _
 refine JW.block ?_
 refine (JL.code h h1 h2).mono ?_
 intro e tr zm nx m1 m2 hp
 cases e with
 | exit i =>
  have hp:if i=id then JL E B N mask l2 tr zm nx Q else Q (.exit i) tr zm nx:=hp
  by_cases hi:i=id
  ·subst hi
   rw[if_pos rfl] at hp
   exact .inl ⟨rfl,.inl ⟨rfl,hp⟩⟩
  ·rw[if_neg hi] at hp
   exact .inr ⟨by simpa using hi,.inr ⟨by simp,hp⟩⟩
 | normal=>exact .inr ⟨by simp,.inl ⟨rfl,hp⟩⟩
 | goto i=>exact .inr ⟨by simp,.inr ⟨by simp,hp⟩⟩
 | ret=>exact .inr ⟨by simp,.inr ⟨by simp,hp⟩⟩
 | panic i=>exact .inr ⟨by simp,.inr ⟨by simp,hp⟩⟩
 | outgrown=>exact .inr ⟨by simp,.inr ⟨by simp,hp⟩⟩
end
end Go.K
