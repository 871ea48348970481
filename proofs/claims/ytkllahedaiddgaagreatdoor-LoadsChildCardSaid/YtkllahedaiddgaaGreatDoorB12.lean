/- Names, contracts, orders; weaker knowledge. No condition. -/
import Derived.Test.YtkllahedaiddgaaGreatDoorB11
import Derived.Deep.LoopGhost
import Derived.Scope
set_option linter.unusedSimpArgs false
set_option linter.unusedVariables false
namespace Go.Ab
open Go.RowKit
variable [Gl]
def vJ:V→Bool
 | .ptr .. | .row .. | .sl .. | .yld _=>false
 | .cons h t=>vJ h&&vJ t
 | .arr n f=>(List.range n).all fun i=>vJ (f i)
 | .fn _ c=>vJ c
 | .tup l=>vJ l
 | _=>true
omit [Gl] in
theorem R.pure_of {C:Ctx}(v:V):∀ {m:M},vJ v=true→R C v m→R C.pur v m:=by
 induction v with
 | cons x t ih1 ih2 =>
  intro m hn h
  simp only[vJ,Bool.and_eq_true] at hn
  cases m with
  | cel s g off=>obtain⟨a,b,h1,h2,h3⟩:=h; exact⟨a,b,h1,ih1 hn.1 h2,ih2 hn.2 h3⟩
  | val v=>obtain⟨cs,a,b,h1,h2,h3,h4⟩:=h; exact⟨cs,a,b,h1,h2,ih1 hn.1 h3,ih2 hn.2 h4⟩
  | list l=>obtain⟨y,ys,h1,h2,h3⟩:=h; exact⟨y,ys,h1,ih1 hn.1 h2,ih2 hn.2 h3⟩
 | arr n f ih =>
  intro m hn h
  simp only[vJ,List.all_eq_true,List.mem_range] at hn
  cases m with
  | cel s g off=>obtain⟨e,h1,h2⟩:=h; exact⟨e,h1,fun i hi=>ih i (hn i hi) (h2 i hi)⟩
  | val v=>obtain⟨cs,e,h1,h2,h3⟩:=h; exact⟨cs,e,h1,h2,fun i hi=>ih i (hn i hi) (h3 i hi)⟩
  | list l=>exact h
 | fn f cap ih=>intro m hn h; obtain⟨cs,h1,h2,h3⟩:=h; exact⟨cs,h1,ih hn h2,h3⟩
 | tup l ih =>
  intro m hn h
  cases m with
  | val v=>obtain⟨cs,h1,h2⟩:=h; exact⟨cs,h1,ih hn h2⟩
  | cel=>exact h
  | list=>exact h
 | ptr id p s=>intro m hn; simp [vJ] at hn
 | row id e n=>intro m hn; simp [vJ] at hn
 | sl id p e off len cap=>intro m hn; simp [vJ] at hn
 | yld id=>intro m hn; simp [vJ] at hn
 | int k n=>intro m _ h; exact h
 | bool b=>intro m _ h; exact h
 | str s=>intro m _ h; exact h
 | nilp=>intro m _ h; exact h
 | nils=>intro m _ h; exact h
 | nilf=>intro m _ h; exact h
 | nl=>intro m _ h; cases m<;>exact h
 | ref u s c ih=>intro m _ h; exact h
 | ro u clip e len f ih=>intro m _ h; exact h
 | unk=>intro m _ h; cases m<;>exact h
def Ctx.opened (C:Ctx) (B:Nat):Ctx:={ C.pur with ok:=fun u b=>C.ok u b∨(B≤b∧b < C.w.heap.size) }
omit [Gl] in
theorem Keep.opened (C:Ctx) (B:Nat):Keep C.pur (C.opened B):=⟨fun _ h=>h.elim,fun _ h=>h.elim,fun _ h=>h.elim,fun _ _ h=>.inl h,fun _ _ _=>rfl⟩
structure CSpec where
 pre:List V→Bool
 res:List V→V
 fresh:Bool:=false
def zA:V→Bool
 | .ref .. | .ro .. | .ptr .. | .row .. | .sl .. | .yld _=>false
 | .cons h t=>zA h&&zA t
 | .arr n f=>(List.range n).all fun i=>zA (f i)
 | .fn f c=>Nat.blt f 8589934592&&zA c
 | .tup l=>zA l
 | _=>true
omit [Gl] in
theorem R.noref {C C':Ctx}(v:V):∀ {m:M},zA v=true→R C v m→R C' v m:=by
 induction v with
 | cons x t ih1 ih2 =>
  intro m hn h
  simp only[zA,Bool.and_eq_true] at hn
  cases m with
  | cel s g off=>obtain⟨a,b,h1,h2,h3⟩:=h; exact⟨a,b,h1,ih1 hn.1 h2,ih2 hn.2 h3⟩
  | val v=>obtain⟨cs,a,b,h1,h2,h3,h4⟩:=h; exact⟨cs,a,b,h1,h2,ih1 hn.1 h3,ih2 hn.2 h4⟩
  | list l=>obtain⟨y,ys,h1,h2,h3⟩:=h; exact⟨y,ys,h1,ih1 hn.1 h2,ih2 hn.2 h3⟩
 | arr n f ih =>
  intro m hn h
  simp only[zA,List.all_eq_true,List.mem_range] at hn
  cases m with
  | cel s g off=>obtain⟨e,h1,h2⟩:=h; exact⟨e,h1,fun i hi=>ih i (hn i hi) (h2 i hi)⟩
  | val v=>obtain⟨cs,e,h1,h2,h3⟩:=h; exact⟨cs,e,h1,h2,fun i hi=>ih i (hn i hi) (h3 i hi)⟩
  | list l=>exact h
 | fn f cap ih =>
  intro m hn h
  simp only[zA,Bool.and_eq_true] at hn
  have hf:f < 8589934592:=by have:=hn.1; rwa [Nat.blt_eq] at this
  obtain⟨cs,h1,h2,h3⟩:=h
  exact⟨cs,by rw[cs.vw_lt hf] at h1 ⊢; exact h1,ih hn.2 h2,.lt hf⟩
 | tup l ih =>
  intro m hn h
  cases m with
  | val v=>obtain⟨cs,h1,h2⟩:=h; exact⟨cs,h1,ih hn h2⟩
  | cel=>exact h
  | list=>exact h
 | int k n=>intro m _ h; exact h
 | bool b=>intro m _ h; exact h
 | str s=>intro m _ h; exact h
 | nilp=>intro m _ h; exact h
 | nils=>intro m _ h; exact h
 | nilf=>intro m _ h; exact h
 | nl=>intro m _ h; cases m<;>exact h
 | unk=>intro m _ h; cases m<;>exact h
 | _=>intro m hn; simp [zA] at hn
def borrow:V→V
 | .ref _ s c=>.ref true s (borrow c)
 | .ro _ clip e len f=>.ro true clip e len fun i=>borrow (f i)
 | .cons h t=>.cons (borrow h) (borrow t)
 | .arr n f=>.arr n fun i=>borrow (f i)
 | .fn f c=>.fn f (borrow c)
 | .tup l=>.tup (borrow l)
 | v=>v
omit [Gl] in
theorem R.borrow {ok':Bool→Nat→Prop}(v:V):∀ {C:Ctx}{m:M},(∀ u b,C.ok u b→ok' true b)→R C v m→R { C with ok:=ok' } (Ab.borrow v) m:=by
 induction v with
 | cons x t ih1 ih2 =>
  intro C m ho h
  cases m with
  | cel s g off=>obtain⟨a,b,h1,h2,h3⟩:=h; exact⟨a,b,h1,ih1 ho h2,ih2 ho h3⟩
  | val v=>obtain⟨cs,a,b,h1,h2,h3,h4⟩:=h; exact⟨cs,a,b,h1,h2,ih1 ho h3,ih2 ho h4⟩
  | list l=>obtain⟨y,ys,h1,h2,h3⟩:=h; exact⟨y,ys,h1,ih1 ho h2,ih2 ho h3⟩
 | arr n f ih =>
  intro C m ho h
  cases m with
  | cel s g off=>obtain⟨e,h1,h2⟩:=h; exact⟨e,h1,fun i hi=>ih i ho (h2 i hi)⟩
  | val v=>obtain⟨cs,e,h1,h2,h3⟩:=h; exact⟨cs,e,h1,h2,fun i hi=>ih i ho (h3 i hi)⟩
  | list l=>exact h
 | fn f cap ih=>intro C m ho h; obtain⟨cs,h1,h2,h3⟩:=h; exact⟨cs,h1,ih ho h2,h3.keep (fun b hb=>ho true b hb) (fun _ _=>rfl)⟩
 | tup l ih =>
  intro C m ho h
  cases m with
  | val v=>obtain⟨cs,h1,h2⟩:=h; exact⟨cs,h1,ih ho h2⟩
  | cel=>exact h
  | list=>exact h
 | ref u s c ih=>intro C m ho h; obtain⟨b,o,h1,h2,h3⟩:=h; exact⟨b,o,h1,ho u b h2,ih (C:=C.pur) ho h3⟩
 | ro u clip e len f ih =>
  intro C m ho h
  obtain⟨a,c,h1,h2,h3,h4⟩:=h
  refine⟨a,c,h1,h2,h3,h4.imp id ?_⟩
  rintro⟨b,o,h5,h6,h7⟩
  exact⟨b,o,h5,ho u b h6,fun i hi=>ih i (C:=C.pur) ho (h7 i hi)⟩
 | int k n=>intro C m _ h; exact h
 | bool b=>intro C m _ h; exact h
 | str s=>intro C m _ h; exact h
 | nilp=>intro C m _ h; exact h
 | nils=>intro C m _ h; exact h
 | nilf=>intro C m _ h; exact h
 | nl=>intro C m _ h; cases m<;>exact h
 | unk=>intro C m _ h; cases m<;>exact h
 | ptr id p s=>intro C m _ h; exact h
 | yld id=>intro C m _ h; exact h
 | row id e n=>intro C m _ h; exact h
 | sl id p e off len cap=>intro C m _ h; exact h
def unL:V→List V
 | .cons h t=>h::unL t
 | _=>[]
omit [Gl] in
theorem R.unL {C:Ctx}(v:V):∀ {vs:List Value},R C v (.list vs)→R C (Ab.mkL (Ab.unL v)) (.list vs):=by
 induction v with
 | cons h t _ ih=>intro vs hr; obtain⟨x,xs,rfl,h1,h2⟩:=hr; exact⟨x,xs,rfl,h1,ih h2⟩
 | nl=>intro vs hr; exact hr
 | _=>intro vs hr; simp [RR,M.leaf] at hr
def Zl:Eff:=zk (.tup .nl)
def zgn (te te':TE) (ops:Array Oper):Bool :=
 (match te'.o.dst with | some d=>te.o.dst==some d||(te.o.looksAt ops).contains d | none=>false) ||
 (match te.o.dst with | some d=>(te'.o.looksAt ops).contains d | none=>false)
def wids (te:TE):List Nat:=te.e.up.map (·.1)++List.range' te.n te.e.nw.length
def jK (te te':TE):Bool:=(wids te').any (fun id=>(wids te).contains id||te.e.rd.contains id)||(te'.e.rd.any fun id=>(wids te).contains id)
omit [Gl] in
theorem Wg {te:TE}{id:Nat}(h:(wrM te id).isSome=true):id∈wids te:=by
 unfold wrM xf at h
 unfold wids
 split at h
 ·rename_i h1
  exact List.mem_append_right _ (List.mem_range'_1.2 ⟨h1.1,h1.2⟩)
 ·refine List.mem_append_left _ (List.mem_map.2 ?_)
  cases hk:te.e.up.lookup id with
  | none=>rw[hk] at h; cases h
  | some b =>
   have:∀(l:List (Nat×Blk)),l.lookup id=some b→∃ x∈l,x.1=id:=by
    intro l
    induction l with
    | nil=>intro h; cases h
    | cons x l ih =>
     intro h
     simp only[List.lookup] at h
     cases hx:id==x.1 with
     | true=>exact⟨x,by simp,(by simpa using hx:id=x.1).symm⟩
     | false =>
      rw[hx] at h
      obtain⟨y,hy,e⟩:=ih h
      exact⟨y,by simp [hy],e⟩
   exact this _ hk
omit [Gl] in
theorem Vs {te:TE}{k:Nat}(h:(wrT te k).isSome=true):te.o.dst=some k:=by
 unfold wrT at h
 split at h
 ·assumption
 ·cases h
def V.bel (n:Nat):V→Prop
 | .ptr id _ _=>id < n
 | .row id _ _=>id < n
 | .sl id _ _ _ _ _=>id < n
 | .yld id=>id < n
 | .cons a b=>a.bel n∧b.bel n
 | .arr k f=>∀ i,i < k→(f i).bel n
 | .fn _ c=>c.bel n
 | .tup l=>l.bel n
 | _=>True
def Ctx.cut (C:Ctx) (n:Nat):Ctx:={ C with al:=fun id=>C.al id∧id < n }
omit [Gl] in
theorem R.cut {C:Ctx}{n:Nat}(v:V):∀ {m:M},v.bel n→R C v m→R (C.cut n) v m:=by
 induction v with
 | cons x t ih1 ih2 =>
  intro m hl h
  cases m with
  | cel s g off=>obtain⟨a,b,h1,h2,h3⟩:=h; exact⟨a,b,h1,ih1 hl.1 h2,ih2 hl.2 h3⟩
  | val v=>obtain⟨cs,a,b,h1,h2,h3,h4⟩:=h; exact⟨cs,a,b,h1,h2,ih1 hl.1 h3,ih2 hl.2 h4⟩
  | list l=>obtain⟨y,ys,h1,h2,h3⟩:=h; exact⟨y,ys,h1,ih1 hl.1 h2,ih2 hl.2 h3⟩
 | arr n f ih =>
  intro m hl h
  cases m with
  | cel s g off=>obtain⟨e,h1,h2⟩:=h; exact⟨e,h1,fun i hi=>ih i (hl i hi) (h2 i hi)⟩
  | val v=>obtain⟨cs,e,h1,h2,h3⟩:=h; exact⟨cs,e,h1,h2,fun i hi=>ih i (hl i hi) (h3 i hi)⟩
  | list l=>exact h
 | ptr id p s=>intro m hl h; obtain⟨h0,r⟩:=h; exact⟨⟨h0,hl⟩,r⟩
 | yld id=>intro m hl h; obtain⟨h0,r⟩:=h; exact⟨⟨h0,hl⟩,r⟩
 | row id e n=>intro m hl h; obtain⟨h0,r⟩:=h; exact⟨⟨h0,hl⟩,r⟩
 | sl id p e off len cap=>intro m hl h; obtain⟨h0,r⟩:=h; exact⟨⟨h0,hl⟩,r⟩
 | fn f c ih=>intro m hl h; obtain⟨cs,h1,h2,h3⟩:=h; exact⟨cs,h1,ih hl h2,h3⟩
 | tup l ih =>
  intro m hl h
  cases m with
  | val v=>obtain⟨cs,h1,h2⟩:=h; exact⟨cs,h1,ih hl h2⟩
  | cel=>exact h
  | list=>exact h
 | nl=>intro m _ h; cases m<;>exact h
 | unk=>intro m _ h; cases m<;>exact h
 | _=>intro m _ h; exact h
def rdV (a:Act):ResultVar→Sem Value
 | .tmp t=>pure (a.tmps.getD t undef)
 | .cell p t=>do loadVar t (←asAddr (a.tmps.getD p undef))
omit [Gl] in
theorem XH (fn:Func) (a:Act):results fn a.tmps=(do let vs ←fn.results.mapM (rdV a); pure (if h:vs.size=1 then vs[0] else .tuple vs)):=by
 unfold results
 congr 1
end Go.Ab
