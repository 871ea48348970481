/- Names, contracts, orders; weaker knowledge. No condition. -/
import Derived.Test.YtkllahedaiddgaaGreatDoorB11
import Derived.Deep.LoopGhost
import Derived.Scope
set_option linter.unusedSimpArgs false
set_option linter.unusedVariables false
namespace Go.Ab
open Go.RowKit
variable [Gl]
def xy:V→Bool
 | .ptr .. | .row .. | .sl .. | .yld _=>false
 | .cons h t=>xy h&&xy t
 | .arr n f=>(List.range n).all fun i=>xy (f i)
 | .fn _ c=>xy c
 | .tup l=>xy l
 | _=>true
omit [Gl] in
theorem R.pure_of {C:Ctx}(v:V):∀ {m:M},xy v=true→R C v m→R C.pur v m:=by
 induction v with
 | cons x t ih1 ih2 =>
  intro m hn h
  simp only[xy,Bool.and_eq_true] at hn
  cases m with
  | cel s g off=>obtain⟨a,b,h1,h2,h3⟩:=h; exact⟨a,b,h1,ih1 hn.1 h2,ih2 hn.2 h3⟩
  | val v=>obtain⟨cs,a,b,h1,h2,h3,h4⟩:=h; exact⟨cs,a,b,h1,h2,ih1 hn.1 h3,ih2 hn.2 h4⟩
  | list l=>obtain⟨y,ys,h1,h2,h3⟩:=h; exact⟨y,ys,h1,ih1 hn.1 h2,ih2 hn.2 h3⟩
 | arr n f ih =>
  intro m hn h
  simp only[xy,List.all_eq_true,List.mem_range] at hn
  cases m with
  | cel s g off=>obtain⟨e,h1,h2⟩:=h; exact⟨e,h1,fun i hi=>ih i (hn i hi) (h2 i hi)⟩
  | val v=>obtain⟨cs,e,h1,h2,h3⟩:=h; exact⟨cs,e,h1,h2,fun i hi=>ih i (hn i hi) (h3 i hi)⟩
  | list l=>exact h
 | fn f cap ih=>intro m hn h; obtain⟨cs,h1,h2,h3⟩:=h; exact⟨cs,h1,ih hn h2,h3⟩
 | tup l ih =>
  intro m hn h
  cases m with
  | val v=>obtain⟨cs,h1,h2⟩:=h; exact⟨cs,h1,ih hn h2⟩
  | cel=>exact h
  | list=>exact h
 | ptr id p s=>intro m hn; simp [xy] at hn
 | row id e n=>intro m hn; simp [xy] at hn
 | sl id p e off len cap=>intro m hn; simp [xy] at hn
 | yld id=>intro m hn; simp [xy] at hn
 | int k n=>intro m _ h; exact h
 | bool b=>intro m _ h; exact h
 | str s=>intro m _ h; exact h
 | nilp=>intro m _ h; exact h
 | nils=>intro m _ h; exact h
 | nilf=>intro m _ h; exact h
 | nl=>intro m _ h; cases m<;>exact h
 | ref u s c ih=>intro m _ h; exact h
 | ro u clip e len f ih=>intro m _ h; exact h
 | unk=>intro m _ h; cases m<;>exact h
def Ctx.opened (C:Ctx) (B:Nat):Ctx:={ C.pur with ok:=fun u b=>C.ok u b∨(B≤b∧b < C.w.heap.size) }
omit [Gl] in
theorem Keep.opened (C:Ctx) (B:Nat):Keep C.pur (C.opened B):=⟨fun _ h=>h.elim,fun _ h=>h.elim,fun _ h=>h.elim,fun _ _ h=>.inl h,fun _ _ _=>rfl⟩
structure CSpec where
 pre:List V→Bool
 res:List V→V
 fresh:Bool:=false
def xw:V→Bool
 | .ref .. | .ro .. | .ptr .. | .row .. | .sl .. | .yld _=>false
 | .cons h t=>xw h&&xw t
 | .arr n f=>(List.range n).all fun i=>xw (f i)
 | .fn f c=>Nat.blt f 8589934592&&xw c
 | .tup l=>xw l
 | _=>true
omit [Gl] in
theorem R.noref {C C':Ctx}(v:V):∀ {m:M},xw v=true→R C v m→R C' v m:=by
 induction v with
 | cons x t ih1 ih2 =>
  intro m hn h
  simp only[xw,Bool.and_eq_true] at hn
  cases m with
  | cel s g off=>obtain⟨a,b,h1,h2,h3⟩:=h; exact⟨a,b,h1,ih1 hn.1 h2,ih2 hn.2 h3⟩
  | val v=>obtain⟨cs,a,b,h1,h2,h3,h4⟩:=h; exact⟨cs,a,b,h1,h2,ih1 hn.1 h3,ih2 hn.2 h4⟩
  | list l=>obtain⟨y,ys,h1,h2,h3⟩:=h; exact⟨y,ys,h1,ih1 hn.1 h2,ih2 hn.2 h3⟩
 | arr n f ih =>
  intro m hn h
  simp only[xw,List.all_eq_true,List.mem_range] at hn
  cases m with
  | cel s g off=>obtain⟨e,h1,h2⟩:=h; exact⟨e,h1,fun i hi=>ih i (hn i hi) (h2 i hi)⟩
  | val v=>obtain⟨cs,e,h1,h2,h3⟩:=h; exact⟨cs,e,h1,h2,fun i hi=>ih i (hn i hi) (h3 i hi)⟩
  | list l=>exact h
 | fn f cap ih =>
  intro m hn h
  simp only[xw,Bool.and_eq_true] at hn
  have hf:f < 8589934592:=by have:=hn.1; rwa [Nat.blt_eq] at this
  obtain⟨cs,h1,h2,h3⟩:=h
  exact⟨cs,by rw[cs.vw_lt hf] at h1 ⊢; exact h1,ih hn.2 h2,.lt hf⟩
 | tup l ih =>
  intro m hn h
  cases m with
  | val v=>obtain⟨cs,h1,h2⟩:=h; exact⟨cs,h1,ih hn h2⟩
  | cel=>exact h
  | list=>exact h
 | int k n=>intro m _ h; exact h
 | bool b=>intro m _ h; exact h
 | str s=>intro m _ h; exact h
 | nilp=>intro m _ h; exact h
 | nils=>intro m _ h; exact h
 | nilf=>intro m _ h; exact h
 | nl=>intro m _ h; cases m<;>exact h
 | unk=>intro m _ h; cases m<;>exact h
 | _=>intro m hn; simp [xw] at hn
def borrow:V→V
 | .ref _ s c=>.ref true s (borrow c)
 | .ro _ clip e len f=>.ro true clip e len fun i=>borrow (f i)
 | .cons h t=>.cons (borrow h) (borrow t)
 | .arr n f=>.arr n fun i=>borrow (f i)
 | .fn f c=>.fn f (borrow c)
 | .tup l=>.tup (borrow l)
 | v=>v
omit [Gl] in
theorem R.borrow {ok':Bool→Nat→Prop}(v:V):∀ {C:Ctx}{m:M},(∀ u b,C.ok u b→ok' true b)→R C v m→R { C with ok:=ok' } (Ab.borrow v) m:=by
 induction v with
 | cons x t ih1 ih2 =>
  intro C m ho h
  cases m with
  | cel s g off=>obtain⟨a,b,h1,h2,h3⟩:=h; exact⟨a,b,h1,ih1 ho h2,ih2 ho h3⟩
  | val v=>obtain⟨cs,a,b,h1,h2,h3,h4⟩:=h; exact⟨cs,a,b,h1,h2,ih1 ho h3,ih2 ho h4⟩
  | list l=>obtain⟨y,ys,h1,h2,h3⟩:=h; exact⟨y,ys,h1,ih1 ho h2,ih2 ho h3⟩
 | arr n f ih =>
  intro C m ho h
  cases m with
  | cel s g off=>obtain⟨e,h1,h2⟩:=h; exact⟨e,h1,fun i hi=>ih i ho (h2 i hi)⟩
  | val v=>obtain⟨cs,e,h1,h2,h3⟩:=h; exact⟨cs,e,h1,h2,fun i hi=>ih i ho (h3 i hi)⟩
  | list l=>exact h
 | fn f cap ih=>intro C m ho h; obtain⟨cs,h1,h2,h3⟩:=h; exact⟨cs,h1,ih ho h2,h3.keep (fun b hb=>ho true b hb) (fun _ _=>rfl)⟩
 | tup l ih =>
  intro C m ho h
  cases m with
  | val v=>obtain⟨cs,h1,h2⟩:=h; exact⟨cs,h1,ih ho h2⟩
  | cel=>exact h
  | list=>exact h
 | ref u s c ih=>intro C m ho h; obtain⟨b,o,h1,h2,h3⟩:=h; exact⟨b,o,h1,ho u b h2,ih (C:=C.pur) ho h3⟩
 | ro u clip e len f ih =>
  intro C m ho h
  obtain⟨a,c,h1,h2,h3,h4⟩:=h
  refine⟨a,c,h1,h2,h3,h4.imp id ?_⟩
  rintro⟨b,o,h5,h6,h7⟩
  exact⟨b,o,h5,ho u b h6,fun i hi=>ih i (C:=C.pur) ho (h7 i hi)⟩
 | int k n=>intro C m _ h; exact h
 | bool b=>intro C m _ h; exact h
 | str s=>intro C m _ h; exact h
 | nilp=>intro C m _ h; exact h
 | nils=>intro C m _ h; exact h
 | nilf=>intro C m _ h; exact h
 | nl=>intro C m _ h; cases m<;>exact h
 | unk=>intro C m _ h; cases m<;>exact h
 | ptr id p s=>intro C m _ h; exact h
 | yld id=>intro C m _ h; exact h
 | row id e n=>intro C m _ h; exact h
 | sl id p e off len cap=>intro C m _ h; exact h
def appL:List V→V→V
 | [],c=>c
 | v::l,c=>.cons v (appL l c)
def unL:V→List V
 | .cons h t=>h::unL t
 | _=>[]
omit [Gl] in
theorem R.appL {C:Ctx}{c:V}{cs:List Value}(hc:R C c (.list cs)):∀ {l:List V}{vs:List Value},R C (Ab.mkL l) (.list vs)→R C (Ab.appL l c) (.list (vs++cs))
 | [],vs,h=>by obtain rfl:vs=[]:=h; exact hc
 | v::l,vs,h=>by obtain⟨x,xs,rfl,h1,h2⟩:=h; exact⟨x,xs++cs,rfl,h1,R.appL hc h2⟩
omit [Gl] in
theorem R.unL {C:Ctx}(v:V):∀ {vs:List Value},R C v (.list vs)→R C (Ab.mkL (Ab.unL v)) (.list vs):=by
 induction v with
 | cons h t _ ih=>intro vs hr; obtain⟨x,xs,rfl,h1,h2⟩:=hr; exact⟨x,xs,rfl,h1,ih h2⟩
 | nl=>intro vs hr; exact hr
 | _=>intro vs hr; simp [RR,M.leaf] at hr
def jn:Eff:=zi (.tup .nl)
def XH (te te':TE) (ops:Array Oper):Bool :=
 (match te'.o.dst with | some d=>te.o.dst==some d||(te.o.looksAt ops).contains d | none=>false) ||
 (match te.o.dst with | some d=>(te'.o.looksAt ops).contains d | none=>false)
def wids (te:TE):List Nat:=te.e.up.map (·.1)++List.range' te.n te.e.nw.length
def xK (te te':TE):Bool:=(wids te').any (fun id=>(wids te).contains id||te.e.rd.contains id)||(te'.e.rd.any fun id=>(wids te).contains id)
def j9 (ops:Array Oper):List TE→Bool
 | []=>true
 | te::r=>j9 ops r&&(te.o.after.all fun e=>!(Region.binds .any e)||decide (e.on < r.length))&&against te r
where against (te:TE):List TE→Bool
 | []=>true
 | te'::r'=>(zT te r'.length||!(XH te te' ops||xK te te'))&&against te r'
omit [Gl] in
theorem wo {te:TE}{id:Nat}(h:(wrM te id).isSome=true):id∈wids te:=by
 unfold wrM zL at h
 unfold wids
 split at h
 ·rename_i h1
  exact List.mem_append_right _ (List.mem_range'_1.2 ⟨h1.1,h1.2⟩)
 ·refine List.mem_append_left _ (List.mem_map.2 ?_)
  cases hk:te.e.up.lookup id with
  | none=>rw[hk] at h; cases h
  | some b =>
   have:∀(l:List (Nat×Blk)),l.lookup id=some b→∃ x∈l,x.1=id:=by
    intro l
    induction l with
    | nil=>intro h; cases h
    | cons x l ih =>
     intro h
     simp only[List.lookup] at h
     cases hx:id==x.1 with
     | true=>exact⟨x,by simp,(by simpa using hx:id=x.1).symm⟩
     | false =>
      rw[hx] at h
      obtain⟨y,hy,e⟩:=ih h
      exact⟨y,by simp [hy],e⟩
   exact this _ hk
omit [Gl] in
theorem w9 {ops:Array Oper}{te:TE}:∀ {r:List TE},j9.against ops te r=true→∀ l te' r',r=l++te'::r'→(zT te r'.length||!(XH te te' ops||xK te te'))=true
 | [],_,l,te',r',e=>by cases l<;>cases e
 | t::r,h,l,te',r',e=>by
  simp only[j9.against,Bool.and_eq_true] at h
  cases l with
  | nil=>simp only[List.nil_append,List.cons.injEq] at e; obtain⟨rfl,rfl⟩:=e; exact h.1
  | cons x l=>simp only[List.cons_append,List.cons.injEq] at e; exact w9 h.2 l te' r' e.2
omit [Gl] in
theorem jV {te:TE}{k:Nat}(h:(wrT te k).isSome=true):te.o.dst=some k:=by
 unfold wrT at h
 split at h
 ·assumption
 ·cases h
omit [Gl] in
theorem yH {ops:Array Oper}:∀ {tr:List TE},j9 ops tr=true→Apart wrT (VX ops) zT tr∧Apart wrM VY zT tr∧(∀ l te r,tr=l++te::r→∀ k,zT te k=true→k < r.length)
 | [],_=>⟨trivial,trivial,fun l te r e=>by cases l<;>cases e⟩
 | te::r,h=>by
  simp only[j9,Bool.and_eq_true] at h
  obtain⟨h1,h2,h3⟩:=yH h.1.1
  refine⟨⟨h1,fun l te' r' e ⟨k,hk⟩=>?_⟩,⟨h2,fun l te' r' e ⟨k,hk⟩=>?_⟩,?_⟩
  ·have:=w9 h.2 l te' r' e
   cases hed:zT te r'.length with
   | true=>rfl
   | false =>
    exfalso
    simp only[hed,Bool.false_or,Bool.not_eq_true',Bool.or_eq_false_iff] at this
    have hc:=this.1
    unfold XH at hc
    rcases hk with ⟨hw,hk⟩ | ⟨hu,hw⟩
    ·rw[jV hw] at hc
     simp only[Bool.or_eq_false_iff] at hc
     rcases hk with hk | hk
     ·rw[jV hk] at hc; simp at hc
     ·have h5:(te.o.looksAt ops).contains k=true:=List.contains_iff_mem.2 hk
      simp only[h5] at hc; simp at hc
    ·rw[jV hw] at hc
     have h5:(te'.o.looksAt ops).contains k=true:=List.contains_iff_mem.2 hu
     simp only[h5] at hc; simp at hc
  ·have:=w9 h.2 l te' r' e
   cases hed:zT te r'.length with
   | true=>rfl
   | false =>
    exfalso
    simp only[hed,Bool.false_or,Bool.not_eq_true',Bool.or_eq_false_iff] at this
    have hc:=this.2
    unfold xK at hc
    simp only[Bool.or_eq_false_iff,List.any_eq_false] at hc
    rcases hk with ⟨hw,hk⟩ | ⟨hu,hw⟩
    ·have h4:=hc.1 k (wo hw)
     simp only[Bool.or_eq_true,not_or] at h4
     rcases hk with hk | hk
     ·exact h4.1 (by simpa using wo hk)
     ·exact h4.2 (List.contains_iff_mem.2 hk)
    ·exact hc.2 k hu (by simpa using wo hw)
  ·intro l te' r' e k hk
   cases l with
   | nil =>
    simp only[List.nil_append,List.cons.injEq] at e
    obtain⟨rfl,rfl⟩:=e
    have h4:=h.1.2
    unfold zT at hk
    obtain⟨x,hx,hb⟩:=Array.any_eq_true'.1 hk
    simp only[Bool.and_eq_true,beq_iff_eq] at hb
    have:=Array.all_eq_true'.1 h4 x hx
    simp only[hb.1,Bool.not_true,Bool.false_or,decide_eq_true_eq] at this
    omega
   | cons x l=>simp only[List.cons_append,List.cons.injEq] at e; exact h3 l te' r' e.2 k hk
def V.le:V→V→Prop
 | .cons a b,w=>match w with | .cons c d=>a.le c∧b.le d | _=>False
 | .arr n f,w=>match w with | .arr m g=>n=m∧∀ i,i < n→(f i).le (g i) | _=>False
 | .ref u s c,w=>match w with | .ref u' s' c'=>u=u'∧s=s'∧c.le c' | _=>False
 | .ro u clip e len f,w=>match w with | .ro u' clip' e' len' g=>u=u'∧(clip'=true→clip=true)∧e=e'∧len=len'∧∀ i,i < len→(f i).le (g i) | _=>False
 | .nils,w=>match w with | .nils=>True | .ro _ _ _ len _=>len=0 | _=>False
 | .fn f c,w=>match w with | .fn g d=>f=g∧c.le d | _=>False
 | .tup l,w=>match w with | .tup r=>l.le r | _=>False
 | v,w=>v=w
omit [Gl] in
theorem V.le_refl (v:V):v.le v:=by
 induction v with
 | cons a b ih1 ih2=>exact⟨ih1,ih2⟩
 | arr n f ih=>exact⟨rfl,fun i _=>ih i⟩
 | ref u s c ih=>exact⟨rfl,rfl,ih⟩
 | ro u clip e len f ih=>exact⟨rfl,id,rfl,rfl,fun i _=>ih i⟩
 | fn f c ih=>exact⟨rfl,ih⟩
 | tup l ih=>exact ih
 | _=>simp [V.le]
omit [Gl] in
theorem R.le (v:V):∀ {C:Ctx}{w:V}{m:M},v.le w→R C v m→R C w m:=by
 induction v with
 | cons x t ih1 ih2 =>
  intro C w m hl h
  cases w<;>simp only[V.le] at hl
  cases m with
  | cel s g off=>obtain⟨a,b,h1,h2,h3⟩:=h; exact⟨a,b,h1,ih1 hl.1 h2,ih2 hl.2 h3⟩
  | val v=>obtain⟨cs,a,b,h1,h2,h3,h4⟩:=h; exact⟨cs,a,b,h1,h2,ih1 hl.1 h3,ih2 hl.2 h4⟩
  | list l=>obtain⟨y,ys,h1,h2,h3⟩:=h; exact⟨y,ys,h1,ih1 hl.1 h2,ih2 hl.2 h3⟩
 | arr n f ih =>
  intro C w m hl h
  cases w<;>simp only[V.le] at hl
  obtain⟨rfl,hl⟩:=hl
  cases m with
  | cel s g off=>obtain⟨e,h1,h2⟩:=h; exact⟨e,h1,fun i hi=>ih i (hl i hi) (h2 i hi)⟩
  | val v=>obtain⟨cs,e,h1,h2,h3⟩:=h; exact⟨cs,e,h1,h2,fun i hi=>ih i (hl i hi) (h3 i hi)⟩
  | list l=>exact h
 | ref u s c ih =>
  intro C w m hl h
  cases w<;>simp only[V.le] at hl
  obtain⟨rfl,rfl,hl⟩:=hl
  obtain⟨b,o,h1,h2,h3⟩:=h
  exact⟨b,o,h1,h2,ih hl h3⟩
 | ro u clip e len f ih =>
  intro C w m hl h
  cases w<;>simp only[V.le] at hl
  obtain⟨rfl,hc,rfl,rfl,hl⟩:=hl
  obtain⟨a,c,h1,h2,h3,h4⟩:=h
  refine⟨a,c,h1,h2,fun x=>h3 (hc x),h4.imp id ?_⟩
  rintro⟨b,o,h5,h6,h7⟩
  exact⟨b,o,h5,h6,fun i hi=>ih i (hl i hi) (h7 i hi)⟩
 | nils =>
  intro C w m hl h
  cases w<;>simp only[V.le] at hl
  ·exact h
  ·subst hl
   exact⟨none,0,h,Nat.le_refl _,fun _=>rfl,.inl rfl⟩
 | fn f c ih =>
  intro C w m hl h
  cases w<;>simp only[V.le] at hl
  obtain⟨rfl,hl⟩:=hl
  obtain⟨cs,h1,h2,h3⟩:=h
  exact⟨cs,h1,ih hl h2,h3⟩
 | tup l ih =>
  intro C w m hl h
  cases w<;>simp only[V.le] at hl
  cases m with
  | val v=>obtain⟨cs,h1,h2⟩:=h; exact⟨cs,h1,ih hl h2⟩
  | cel=>exact h
  | list=>exact h
 | _=>intro C w m hl h; simp only[V.le] at hl; subst hl; exact h
def V.bel (n:Nat):V→Prop
 | .ptr id _ _=>id < n
 | .row id _ _=>id < n
 | .sl id _ _ _ _ _=>id < n
 | .yld id=>id < n
 | .cons a b=>a.bel n∧b.bel n
 | .arr k f=>∀ i,i < k→(f i).bel n
 | .fn _ c=>c.bel n
 | .tup l=>l.bel n
 | _=>True
def Ctx.cut (C:Ctx) (n:Nat):Ctx:={ C with al:=fun id=>C.al id∧id < n }
omit [Gl] in
theorem R.cut {C:Ctx}{n:Nat}(v:V):∀ {m:M},v.bel n→R C v m→R (C.cut n) v m:=by
 induction v with
 | cons x t ih1 ih2 =>
  intro m hl h
  cases m with
  | cel s g off=>obtain⟨a,b,h1,h2,h3⟩:=h; exact⟨a,b,h1,ih1 hl.1 h2,ih2 hl.2 h3⟩
  | val v=>obtain⟨cs,a,b,h1,h2,h3,h4⟩:=h; exact⟨cs,a,b,h1,h2,ih1 hl.1 h3,ih2 hl.2 h4⟩
  | list l=>obtain⟨y,ys,h1,h2,h3⟩:=h; exact⟨y,ys,h1,ih1 hl.1 h2,ih2 hl.2 h3⟩
 | arr n f ih =>
  intro m hl h
  cases m with
  | cel s g off=>obtain⟨e,h1,h2⟩:=h; exact⟨e,h1,fun i hi=>ih i (hl i hi) (h2 i hi)⟩
  | val v=>obtain⟨cs,e,h1,h2,h3⟩:=h; exact⟨cs,e,h1,h2,fun i hi=>ih i (hl i hi) (h3 i hi)⟩
  | list l=>exact h
 | ptr id p s=>intro m hl h; obtain⟨h0,r⟩:=h; exact⟨⟨h0,hl⟩,r⟩
 | yld id=>intro m hl h; obtain⟨h0,r⟩:=h; exact⟨⟨h0,hl⟩,r⟩
 | row id e n=>intro m hl h; obtain⟨h0,r⟩:=h; exact⟨⟨h0,hl⟩,r⟩
 | sl id p e off len cap=>intro m hl h; obtain⟨h0,r⟩:=h; exact⟨⟨h0,hl⟩,r⟩
 | fn f c ih=>intro m hl h; obtain⟨cs,h1,h2,h3⟩:=h; exact⟨cs,h1,ih hl h2,h3⟩
 | tup l ih =>
  intro m hl h
  cases m with
  | val v=>obtain⟨cs,h1,h2⟩:=h; exact⟨cs,h1,ih hl h2⟩
  | cel=>exact h
  | list=>exact h
 | nl=>intro m _ h; cases m<;>exact h
 | unk=>intro m _ h; cases m<;>exact h
 | _=>intro m _ h; exact h
def V.own:V→Prop
 | .ref u _ c=>u=false∧c.own
 | .ro u _ _ len f=>u=false∧∀ i,i < len→(f i).own
 | .cons a b=>a.own∧b.own
 | .arr k f=>∀ i,i < k→(f i).own
 | .fn f c=>f < 8589934592∧c.own
 | .tup l=>l.own
 | _=>True
omit [Gl] in
theorem R.own (v:V):∀ {C:Ctx}{m:M},v.own→R C v m→R { C with ok:=fun _ b=>C.ok false b } v m:=by
 induction v with
 | cons x t ih1 ih2 =>
  intro C m hl h
  cases m with
  | cel s g off=>obtain⟨a,b,h1,h2,h3⟩:=h; exact⟨a,b,h1,ih1 hl.1 h2,ih2 hl.2 h3⟩
  | val v=>obtain⟨cs,a,b,h1,h2,h3,h4⟩:=h; exact⟨cs,a,b,h1,h2,ih1 hl.1 h3,ih2 hl.2 h4⟩
  | list l=>obtain⟨y,ys,h1,h2,h3⟩:=h; exact⟨y,ys,h1,ih1 hl.1 h2,ih2 hl.2 h3⟩
 | arr n f ih =>
  intro C m hl h
  cases m with
  | cel s g off=>obtain⟨e,h1,h2⟩:=h; exact⟨e,h1,fun i hi=>ih i (hl i hi) (h2 i hi)⟩
  | val v=>obtain⟨cs,e,h1,h2,h3⟩:=h; exact⟨cs,e,h1,h2,fun i hi=>ih i (hl i hi) (h3 i hi)⟩
  | list l=>exact h
 | ref u s c ih =>
  intro C m hl h
  obtain⟨rfl,hl⟩:=hl
  obtain⟨b,o,h1,h2,h3⟩:=h
  exact⟨b,o,h1,h2,ih (C:=C.pur) hl h3⟩
 | ro u clip e len f ih =>
  intro C m hl h
  obtain⟨rfl,hl⟩:=hl
  obtain⟨a,c,h1,h2,h3,h4⟩:=h
  refine⟨a,c,h1,h2,h3,h4.imp id ?_⟩
  rintro⟨b,o,h5,h6,h7⟩
  exact⟨b,o,h5,h6,fun i hi=>ih i (C:=C.pur) (hl i hi) (h7 i hi)⟩
 | fn f c ih=>intro C m hl h; obtain⟨cs,h1,h2,h3⟩:=h; exact⟨cs,h1,ih hl.2 h2,.lt hl.1⟩
 | tup l ih =>
  intro C m hl h
  cases m with
  | val v=>obtain⟨cs,h1,h2⟩:=h; exact⟨cs,h1,ih hl h2⟩
  | cel=>exact h
  | list=>exact h
 | nl=>intro C m _ h; cases m<;>exact h
 | unk=>intro C m _ h; cases m<;>exact h
 | _=>intro C m _ h; exact h
def rdV (a:Act):ResultVar→Sem Value
 | .tmp t=>pure (a.tmps.getD t undef)
 | .cell p t=>do loadVar t (←asAddr (a.tmps.getD p undef))
omit [Gl] in
theorem jE (fn:Func) (a:Act):results fn a.tmps=(do let vs ←fn.results.mapM (rdV a); pure (if h:vs.size=1 then vs[0] else .tuple vs)):=by
 unfold results
 congr 1
end Go.Ab
