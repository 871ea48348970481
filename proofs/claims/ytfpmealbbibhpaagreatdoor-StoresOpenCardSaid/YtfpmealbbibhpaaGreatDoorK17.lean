/- Closed contracts whose results lie in new memory, that nobody writes any more; contracts over open arguments. No condition. Runs over open numbers beside closed ones: contracts may be handed from one to the other. No condition. Tables of closed contracts of one function. No condition. Long closed runs put together from pieces: a run known by what it does; loops in chunks of rounds; closed contracts from it. No condition. Runs in pieces: the states between them are written down whole. No condition. Runs in pieces: open ones beside closed ones; contracts of them. No condition. Closed contracts whose results refer to what was handed over. No condition. errors.As of a concrete type: from what it does to what the run needs. No condition. errors.Is of a refusal against what a package variable holds: from what it does to what the run needs. No condition. Code whose names are its own: where names may be given anew; loops with what stays true. No condition. -/
import Derived.Test.YtfpmealbbibhpaaGreatDoorK13
set_option linter.unusedVariables false
set_option linter.unusedSimpArgs false
set_option linter.constructorNameAsVariable false
namespace Go.K
open Go.Ab Go.RowKit Go.Y
noncomputable section
def frC (br:Bool) (C:Ctx) (B:Nat):Ctx:={ C.pur with ok:=fun u b=>(br=true∧u=true∧C.ok true b)∨(B≤b∧b < C.w.heap.size) }
section
variable [Gl] {br:Bool}{B:Nat}{C:Ctx}{M:Mem}
theorem R.row_fr (hs:SR B C M) {id n:Nat}{e:Shape}{blk:Blk}{n1:Nat}{f g:Nat→V}{md:Ab.M}{u:Bool}(hM:M id=some blk) (ha:blk.alive=true) (hv:blk.v=.arr n1 f)
    (hg:∀ i,i < n→∀ md,R C (f i) md→R (frC br C B) (g i) md) (hr:R C (.row id e n) md):R (frC br C B) (.ro u false e n g) md:=by
  obtain⟨hal,⟨a,c,h1⟩,h2,h3⟩:=hr
  have hbr:=hs.mem id blk hM
  unfold BR at hbr; unfold Blk.alive at ha
  cases hkd:blk.k<;>simp only[hkd] at hbr ha
  · obtain⟨g,cur,e',h4,_⟩:=hbr; rw[h1] at h4; cases h4
  · obtain⟨n2,s2,cells,h4,h5,h6,h7⟩:=hbr
    rw[h4,h5] at h2
    simp only[Shape.arr.injEq] at h2
    obtain⟨rfl,rfl⟩:=h2
    refine⟨a,c,by rw[←h1]; exact h3,?_,(by intro hc; cases hc),?_⟩
    · rcases h6.2 with ⟨h8,h9⟩ | ⟨g,cap,cur,hv',hg,hh,hnc,_⟩
      · rw[h1] at h8; cases h8; omega
      · rw[h1] at hv'; cases hv'; exact hnc
    · rcases h6.2 with ⟨h8,h9⟩ | ⟨q,cap,cur,hv',hq,hh,hnc,_,hcs,htake⟩
      · exact .inl h9
      · right
        rw[h1] at hv'
        simp only[Value.slice.injEq] at hv'
        obtain⟨rfl,_,rfl⟩:=hv'
        refine⟨q,0,rfl,.inr ⟨hq,(Array.getElem?_eq_some_iff.1 hh).1⟩,fun i hi=>?_⟩
        have hb':blk? (C.sv id)=some q:=by rw[h1]; rfl
        have hpa:Shape.path [.idx i] (C.shp id)=some (0 + i * s2.size,s2):=by rw[h4,h5]; simp [Shape.path,Shape.step,hi]
        obtain⟨h10,_⟩:=BR.at (hs.mem id blk hM) (by unfold Blk.alive; rw[hkd]) hb' hpa
        rw[hv] at h10
        have h11:R C (f i) (.cel s2 (cg C.w q) (0 + i * s2.size)):=by simpa [V.path,V.step] using h10
        exact hg i hi _ h11
  · simp at ha
  · simp at ha
  · simp at ha
theorem R.sl_fr (hs:SR B C M) {id off len:Nat}{p:List Step}{cap:Option Nat}{e:Shape}{blk:Blk}{n1:Nat}{f g:Nat→V}{md:Ab.M}{u:Bool}(hM:M id=some blk) (ha:blk.alive=true) (hv:blk.v.path p=.arr n1 f)
    (hg:∀ i,i < len→∀ md,R C (f (off + i)) md→R (frC br C B) (g i) md) (hr:R C (.sl id p e off len cap) md):R (frC br C B) (.ro u (capIs cap len) e len g) md:=by
  obtain⟨hal,ad,c,o1,n2,h3,h4,h5,h2,h8,h6⟩:=hr
  refine⟨ad,c,h3,h4,(fun hc=>h5 _ (capIs_eq hc)),h6.imp (fun h=>by omega) ?_⟩
  rintro⟨b,h1,h6⟩
  obtain⟨h7,_⟩:=BR.at (hs.mem id blk hM) ha h1 h2
  rw[hv] at h7
  obtain⟨e',q1,h9⟩:=h7
  simp only[Shape.arr.injEq] at q1
  obtain⟨rfl,rfl⟩:=q1
  refine⟨b,o1 + off * e.size,h6,.inr (hs.lt hM (Blk.lv ha) (blkL_of h1)),fun i hi=>?_⟩
  have h10:R C (f (off + i)) (.cel e (cg C.w b) (o1 + off * e.size + i * e.size)):=by rw[Nat.add_assoc,←Nat.add_mul]; exact h9 (off + i) (by omega)
  exact hg i hi _ h10
theorem R.ptr_fr (hs:SR B C M) {id:Nat}{p:List Step}{s:Shape}{blk:Blk}{g:V}{md:Ab.M}{u:Bool}(hM:M id=some blk) (ha:blk.alive=true)
    (hg:∀ md,R C (blk.v.path p) md→R (frC br C B) g md) (hr:R C (.ptr id p s) md):R (frC br C B) (.ref u s g) md:=by
  obtain⟨hal,b,off,h1,h2,h3⟩:=hr
  obtain⟨h7,_⟩:=BR.at (hs.mem id blk hM) ha h1 h2
  have hlt:=hs.lt hM (Blk.lv ha) (blkL_of h1)
  exact⟨b,off,h3,.inr hlt,hg _ h7⟩
omit [Gl] in
theorem R.cons_map {D:Ctx}{a b a' b':V}(h1:∀ m,R C a m→R D a' m) (h2:∀ m,R C b m→R D b' m) {m:Ab.M}(h:R C (.cons a b) m):R D (.cons a' b') m:=by
  cases m with
  | cel s g off=>obtain⟨a,b,q1,q2,q3⟩:=h; exact⟨a,b,q1,h1 _ q2,h2 _ q3⟩
  | val v=>obtain⟨cs,a,b,q1,q2,q3,q4⟩:=h; exact⟨cs,a,b,q1,q2,h1 _ q3,h2 _ q4⟩
  | list l=>obtain⟨y,ys,q1,q2,q3⟩:=h; exact⟨y,ys,q1,h1 _ q2,h2 _ q3⟩
omit [Gl] in
theorem R.arr_map {D:Ctx}{n:Nat}{f g:Nat→V}(h1:∀ i,i < n→∀ m,R C (f i) m→R D (g i) m) {m:Ab.M}(h:R C (.arr n f) m):R D (.arr n g) m:=by
  cases m with
  | cel s g off=>obtain⟨e,q1,q2⟩:=h; exact⟨e,q1,fun i hi=>h1 i hi _ (q2 i hi)⟩
  | val v=>obtain⟨cs,e,q1,q2,q3⟩:=h; exact⟨cs,e,q1,q2,fun i hi=>h1 i hi _ (q3 i hi)⟩
  | list l=>exact h
omit [Gl] in
theorem R.tup_map {D:Ctx}{a a':V}(h1:∀ m,R C a m→R D a' m) {m:Ab.M}(h:R C (.tup a) m):R D (.tup a') m:=by
  cases m with
  | val v=>obtain⟨cs,q1,q2⟩:=h; exact⟨cs,q1,h1 _ q2⟩
  | cel=>exact h
  | list=>exact h
omit [Gl] in
theorem R.fn_map {D:Ctx}{f:FuncId}{a a':V}(hf:f < 8589934592) (h1:∀ m,R C a m→R D a' m) {m:Ab.M}(h:R C (.fn f a) m):R D (.fn f a') m:=by
  obtain⟨cs,q1,q2,q3⟩:=h; exact⟨cs,by rw[cs.vw_lt hf] at q1 ⊢; exact q1,h1 _ q2,.lt hf⟩
end
variable [KGl]
def lfB (v:KV):Bool:=match v with
  | .int .. | .bool _ | .str .. | .nl | .pk .. | .nilp | .nils | .nilf | .unk=>true
  | _=>false
def fzBk (f:KV→KV→Bool) (b:Option KBlk) (g:KV→Bool) (w:KV):Bool:=match b with
  | some b=>nd (isAl b.k) (nd (g b.v) (f b.v w))
  | none=>false
def ubK (v:KV):Bool:=@KV.rec (fun _=>Bool) (fun x0 x1=>true) (fun x0=>true) (fun x0 x1=>true) (true) (fun x0 x1 r0 r1=>nd r0 r1) (fun x0 x1 x2=>true) (fun x0 x1 x2 r0 r1=>nd r0 r1) (true) (fun x0 x1 x2 x3 r0 r1 r2 r3=>nd r0 (nd r1 (nd r2 r3))) (fun x0 x1 x2 x3 x4 r0 r1 r2 r3 r4=>nd r0 (nd r1 (nd r2 (nd r3 r4)))) (fun x0 x1 x2=>false) (fun x0 x1 x2=>false) (fun x0 x1 x2 x3 x4 x5=>false) (fun x0 x1 x2 r0=>nd x0 r0) (true) (true) (true) (fun x0 x1 x2 x3 x4 x5 r0=>nd x0 r0) (fun x0 x1 r0=>nd (Nat.blt x0 8589934592) r0) (fun x0 r0=>r0) (true) (fun x0=>false) (fun x0 x1 r=>allAl r) (fun _ _=>false) v
def fzS (br:Bool) (zm:KZ) (ih:KV→KV→Bool) (v w:KV):Bool:=match v with
  | .cons a b=>match w with
    | .cons a' b'=>nd (ih a a') (ih b b')
    | _=>false
  | .tup a=>match w with
    | .tup a'=>ih a a'
    | _=>false
  | .fn f a=>match w with
    | .fn f' a'=>nd (Nat.beq f f') (nd (Nat.blt f 8589934592) (ih a a'))
    | _=>false
  | .ar n d t=>match w with
    | .ar n' d' t'=>nd (Nat.beq n n') (nd (ih d d') (ih t t'))
    | _=>false
  | .te=>match w with
    | .te=>true
    | _=>false
  | .tb a b c d=>match w with
    | .tb a' b' c' d'=>nd (ih a a') (nd (ih b b') (nd (ih c c') (ih d d')))
    | _=>false
  | .tn x a b c d=>match w with
    | .tn x' a' b' c' d'=>nd (ih x x') (nd (ih a a') (nd (ih b b') (nd (ih c c') (ih d d'))))
    | _=>false
  | .row id e len=>match w with
    | .ro _ false e' off len' c=>nd (e.beq e') (nd (Nat.beq off 0) (nd (Nat.beq len len') (fzBk ih (kb zm id) (fun b=>nd (arK b) (Nat.ble len (arZ b))) c)))
    | _=>false
  | .ptr id p s=>match w with
    | .ref _ s' c=>nd (s.beq s') (fzBk (fun b c=>ih (kpath p b) c) (kb zm id) (fun b=>pthOk p b) c)
    | _=>false
  | .sl id p e off len cap=>match w with
    | .ro _ cl e' off' len' c=>nd (e.beq e') (nd (Nat.beq off off') (nd (Nat.beq len len') (nd (cl==capIs cap len) (fzBk (fun b c=>ih (kpath p b) c) (kb zm id) (fun b=>nd (pthOk p b) (nd (arK (kpath p b)) (Nat.ble (Nat.add off len) (arZ (kpath p b))))) c))))
    | _=>false
  | .ref u _ c=>nd br (nd u (nd (ubK c) (kvb v w)))
  | .ro u _ _ _ _ c=>nd br (nd u (nd (ubK c) (kvb v w)))
  | v=>nd (lfB v) (kvb v w)
def fzG (br:Bool) (zm:KZ) (k:Nat):KV→KV→Bool:=@Nat.rec (fun _=>KV→KV→Bool) (fun _ _=>false) (fun _ ih v w=>fzS br zm ih v w) k
def fzB (zm:KZ) (k:Nat):KV→KV→Bool:=fzG false zm k
omit [KGl] in
theorem fzBk_s {f:KV→KV→Bool}{b:Option KBlk}{g:KV→Bool}{w:KV}(h:fzBk f b g w=true):∃ kd sh v,b=some ⟨kd,sh,v⟩∧isAl kd=true∧g v=true∧f v w=true:=by
  unfold fzBk at h
  split at h
  · rename_i b
    simp only[nd_iff] at h
    exact⟨b.k,b.sh,b.v,rfl,h.1,h.2.1,h.2.2⟩
  · cases h
def FzR (br:Bool) (B:Nat) (C:Ctx) (x y:V):Prop:=∀ m,R C x m→R (frC br C B) y m
omit [KGl] in
theorem R.leaf_fr {br:Bool}{B:Nat}{C:Ctx}{v:KV}(h:lfB v=true):FzR br B C v.v v.v:=by
  intro m hr
  refine R.noref _ ?_ hr
  cases v with
  | pk k n x =>
    rw[v_pk]
    show ((List.range n).all fun i=>noRef (.int k (pkg k x i)))=true
    rw[List.all_eq_true]; intro i _; rfl
  | int _ _=>rfl
  | bool _=>rfl
  | str _ _=>rfl
  | nl=>rfl
  | nilp=>rfl
  | nils=>rfl
  | nilf=>rfl
  | unk=>rfl
  | _=>cases h
omit [KGl] in
theorem subT_rel {P:V→V→Prop}{a b c d a' b' c' d':Pth→V→V}(h1:∀ p z z',P z z'→P (a p z) (a' p z')) (h2:∀ p z z',P z z'→P (b p z) (b' p z')) (h3:∀ p z z',P z z'→P (c p z) (c' p z')) (h4:∀ p z z',P z z'→P (d p z) (d' p z')) (g:Dg) (p:Pth) (z z':V) (hz:P z z'):P (subT g a b c d p z) (subT g a' b' c' d' p z'):=by
  cases g
  · exact h1 p z z' hz
  · exact h2 p z z' hz
  · exact h3 p z z' hz
  · exact h4 p z z' hz
omit [KGl] in
theorem FzR.unk {br:Bool}{B:Nat}{C:Ctx}:FzR br B C .unk .unk:=fun m hr=>by cases m<;>exact hr
def FzA (br:Bool) (B:Nat) (C:Ctx) (v w:KV):Prop:=FzR br B C v.v w.v∧(∀ p z z',FzR br B C z z'→FzR br B C (v.atv p z) (w.atv p z'))∧∀ i,FzR br B C (v.v.step (.idx i)) (w.v.step (.idx i))
def allT:V→Prop
  | .ptr .. | .row .. | .sl .. | .yld _=>False
  | .ref u _ c=>u=true∧allT c
  | .ro u _ _ len f=>u=true∧∀ i,i < len→allT (f i)
  | .cons a b=>allT a∧allT b
  | .arr k f=>∀ i,i < k→allT (f i)
  | .fn f c=>f < 8589934592∧allT c
  | .tup l=>allT l
  | _=>True
omit [KGl] in
theorem R.allT (v:V):∀ {C D:Ctx}{m:Ab.M},Go.K.allT v→(∀ b,C.ok true b→D.ok true b)→D.w=C.w→R C v m→R D v m:=by
  induction v with
  | cons x t ih1 ih2 =>
    intro C D m hl ho hw h
    cases m with
    | cel s g off=>obtain⟨a,b,h1,h2,h3⟩:=h; exact⟨a,b,h1,ih1 hl.1 ho hw h2,ih2 hl.2 ho hw h3⟩
    | val v=>obtain⟨cs,a,b,h1,h2,h3,h4⟩:=h; exact⟨cs,a,b,h1,h2,ih1 hl.1 ho hw h3,ih2 hl.2 ho hw h4⟩
    | list l=>obtain⟨y,ys,h1,h2,h3⟩:=h; exact⟨y,ys,h1,ih1 hl.1 ho hw h2,ih2 hl.2 ho hw h3⟩
  | arr n f ih =>
    intro C D m hl ho hw h
    cases m with
    | cel s g off=>obtain⟨e,h1,h2⟩:=h; exact⟨e,h1,fun i hi=>ih i (hl i hi) ho hw (h2 i hi)⟩
    | val v=>obtain⟨cs,e,h1,h2,h3⟩:=h; exact⟨cs,e,h1,h2,fun i hi=>ih i (hl i hi) ho hw (h3 i hi)⟩
    | list l=>exact h
  | ref u s c ih =>
    intro C D m hl ho hw h
    obtain⟨rfl,hl⟩:=hl
    obtain⟨b,o,h1,h2,h3⟩:=h
    exact⟨b,o,h1,ho _ h2,by rw[hw]; exact ih (C:=C.pur) (D:=D.pur) hl ho hw h3⟩
  | ro u clip e len f ih =>
    intro C D m hl ho hw h
    obtain⟨rfl,hl⟩:=hl
    obtain⟨a,c,h1,h2,h3,h4⟩:=h
    refine⟨a,c,h1,h2,h3,h4.imp id ?_⟩
    rintro⟨b,o,h5,h6,h7⟩
    exact⟨b,o,h5,ho _ h6,fun i hi=>by rw[hw]; exact ih i (C:=C.pur) (D:=D.pur) (hl i hi) ho hw (h7 i hi)⟩
  | fn f c ih=>intro C D m hl ho hw h; obtain⟨cs,h1,h2,h3⟩:=h; exact⟨cs,by rw[cs.vw_lt hl.1] at h1 ⊢; exact h1,ih hl.2 ho hw h2,.lt hl.1⟩
  | tup l ih =>
    intro C D m hl ho hw h
    cases m with
    | val v=>obtain⟨cs,h1,h2⟩:=h; exact⟨cs,h1,ih hl ho hw h2⟩
    | cel=>exact h
    | list=>exact h
  | nl=>intro C D m _ ho hw h; cases m<;>exact h
  | unk=>intro C D m _ ho hw h; cases m<;>exact h
  | ptr=>intro C D m hl; exact hl.elim
  | row=>intro C D m hl; exact hl.elim
  | sl=>intro C D m hl; exact hl.elim
  | yld=>intro C D m hl; exact hl.elim
  | _=>intro C D m _ ho hw h; exact h
omit [KGl] in
theorem ubK_s (v:KV):ubK v=true→Go.K.allT v.v∧(∀(p:Pth) (z:V),Go.K.allT z→Go.K.allT (v.atv p z))∧∀ i,Go.K.allT (v.v.step (.idx i)):=by
  induction v with
  | cons a b ih1 ih2 =>
    intro h
    obtain⟨h1,h2⟩:=nd_iff.1 (show nd (ubK a) (ubK b)=true from h)
    exact⟨⟨(ih1 h1).1,(ih2 h2).1⟩,fun p z hz=>hz,fun i=>trivial⟩
  | ar m d t ih1 ih2 =>
    intro h
    obtain⟨h1,h2⟩:=nd_iff.1 (show nd (ubK d) (ubK t)=true from h)
    exact⟨fun i _=>(ih2 h2).2.1 _ _ (ih1 h1).1,fun p z hz=>hz,fun i=>(ih2 h2).2.1 _ _ (ih1 h1).1⟩
  | tb a b c d ih1 ih2 ih3 ih4 =>
    intro h
    have h0:nd (ubK a) (nd (ubK b) (nd (ubK c) (ubK d)))=true:=h
    simp only[nd_iff] at h0
    refine⟨trivial,fun p z hz=>?_,fun i=>trivial⟩
    cases p with
    | nil=>exact hz
    | cons g p =>
      cases g
      · exact (ih1 h0.1).2.1 p z hz
      · exact (ih2 h0.2.1).2.1 p z hz
      · exact (ih3 h0.2.2.1).2.1 p z hz
      · exact (ih4 h0.2.2.2).2.1 p z hz
  | tn x a b c d ih0 ih1 ih2 ih3 ih4 =>
    intro h
    have h0:nd (ubK x) (nd (ubK a) (nd (ubK b) (nd (ubK c) (ubK d))))=true:=h
    simp only[nd_iff] at h0
    refine⟨trivial,fun p z hz=>?_,fun i=>trivial⟩
    cases p with
    | nil=>exact (ih0 h0.1).1
    | cons g p =>
      cases g
      · exact (ih1 h0.2.1).2.1 p z hz
      · exact (ih2 h0.2.2.1).2.1 p z hz
      · exact (ih3 h0.2.2.2.1).2.1 p z hz
      · exact (ih4 h0.2.2.2.2).2.1 p z hz
  | ptr id p s=>intro h; cases h
  | row id s k=>intro h; cases h
  | sl id p s off len cap=>intro h; cases h
  | yld id=>intro h; cases h
  | fn f c ih=>intro h; obtain⟨h1,h2⟩:=nd_iff.1 (show nd (Nat.blt f 8589934592) (ubK c)=true from h); exact⟨⟨nblt.1 h1,(ih h2).1⟩,fun p z hz=>hz,fun i=>trivial⟩
  | tup l ih=>intro h; exact⟨(ih h).1,fun p z hz=>hz,fun i=>trivial⟩
  | ref u s c ih=>intro h; obtain⟨h1,h2⟩:=nd_iff.1 (show nd u (ubK c)=true from h); exact⟨⟨h1,(ih h2).1⟩,fun p z hz=>hz,fun i=>trivial⟩
  | ro u cl e off len c ih =>
    intro h
    obtain⟨h1,h2⟩:=nd_iff.1 (show nd u (ubK c)=true from h)
    refine⟨⟨h1,fun i _=>?_⟩,fun p z hz=>hz,fun i=>trivial⟩
    exact (ih h2).2.2 _
  | pk k m x=>intro h; exact⟨fun i _=>trivial,fun p z hz=>hz,fun i=>trivial⟩
  | clo x ih=>intro h; cases h
  | fa m f ih=>intro h; exact⟨fun i _=>(ih i (allAl_iff.1 (show allAl (fun i=>ubK (f i))=true from h) i)).1,fun p z hz=>hz,fun i=>(ih i (allAl_iff.1 (show allAl (fun i=>ubK (f i))=true from h) i)).1⟩
  | _=>intro h; exact⟨trivial,fun p z hz=>hz,fun i=>trivial⟩
omit [KGl] in
theorem R.allT_fr {B:Nat}{C:Ctx}{v:KV}(h:ubK v=true):FzR true B C v.v v.v:=fun m hr=>R.allT v.v (ubK_s v h).1 (fun b hb=>.inl ⟨rfl,rfl,hb⟩) rfl hr
theorem fzG_s {br:Bool}{zm:KZ}{B:Nat}{C:Ctx}{M:Mem}(hs:SR B C M) (hsub:Sub (am zm) M):∀(k:Nat) (v w:KV),fzG br zm k v w=true→FzA br B C v w
  | 0,_,_,h=>by cases h
  | k + 1,v,w,h=>by
    have ih:=fzG_s (br:=br) hs hsub k
    replace h:fzS br zm (fzG br zm k) v w=true:=h
    have leaf:lfB v=true→fzS br zm (fzG br zm k) v w=nd (lfB v) (kvb v w)→FzA br B C v w:=by
      intro hl he
      rw[he] at h
      obtain⟨h1,h2⟩:=nd_iff.1 h
      obtain rfl:=kvb_s h2
      refine⟨R.leaf_fr h1,fun p z z' hz=>?_,fun i=>?_⟩
      · cases v<;>first | exact hz | cases hl
      · cases v<;>first | exact FzR.unk | exact (fun m hr=>hr) | cases hl
    cases v with
    | int _ _=>exact leaf rfl rfl
    | bool _=>exact leaf rfl rfl
    | str _ _=>exact leaf rfl rfl
    | nl=>exact leaf rfl rfl
    | pk _ _ _=>exact leaf rfl rfl
    | nilp=>exact leaf rfl rfl
    | nils=>exact leaf rfl rfl
    | nilf=>exact leaf rfl rfl
    | unk=>exact leaf rfl rfl
    | yld _=>cases w<;>cases h
    | fa _ _=>cases w<;>cases h
    | clo _=>cases w<;>cases h
    | ref u s c =>
      have h0:nd br (nd u (nd (ubK c) (kvb (.ref u s c) w)))=true:=h
      simp only[nd_iff] at h0
      obtain⟨h1,h2,h3,h4⟩:=h0
      obtain rfl:=kvb_s h4
      subst h1; subst h2
      exact⟨R.allT_fr (by exact h3),fun p z z' hz=>hz,fun i=>FzR.unk⟩
    | ro u cl e off len c =>
      have h0:nd br (nd u (nd (ubK c) (kvb (.ro u cl e off len c) w)))=true:=h
      simp only[nd_iff] at h0
      obtain⟨h1,h2,h3,h4⟩:=h0
      obtain rfl:=kvb_s h4
      subst h1; subst h2
      exact⟨R.allT_fr (by exact h3),fun p z z' hz=>hz,fun i=>FzR.unk⟩
    | cons a b =>
      cases w with
      | cons a' b' =>
        obtain⟨h1,h2⟩:=nd_iff.1 (show nd (fzG br zm k a a') (fzG br zm k b b')=true from h)
        exact⟨fun m hr=>R.cons_map (ih _ _ h1).1 (ih _ _ h2).1 hr,fun p z z' hz=>hz,fun i=>FzR.unk⟩
      | _=>cases h
    | tup a =>
      cases w with
      | tup a'=>exact⟨fun m hr=>R.tup_map (ih _ _ (show fzG br zm k a a'=true from h)).1 hr,fun p z z' hz=>hz,fun i=>FzR.unk⟩
      | _=>cases h
    | fn f a =>
      cases w with
      | fn f' a' =>
        obtain⟨h1,h2⟩:=nd_iff.1 (show nd (Nat.beq f f') (nd (Nat.blt f 8589934592) (fzG br zm k a a'))=true from h)
        obtain⟨h3,h2⟩:=nd_iff.1 h2
        obtain rfl:=beqE h1
        exact⟨fun m hr=>R.fn_map (nblt.1 h3) (ih _ _ h2).1 hr,fun p z z' hz=>hz,fun i=>FzR.unk⟩
      | _=>cases h
    | ar n d t =>
      cases w with
      | ar n' d' t' =>
        have h0:nd (Nat.beq n n') (nd (fzG br zm k d d') (fzG br zm k t t'))=true:=h
        simp only[nd_iff] at h0
        obtain rfl:=beqE h0.1
        have hel:∀ i,FzR br B C (t.atv (enc i) d.v) (t'.atv (enc i) d'.v):=fun i=>(ih _ _ h0.2.2).2.1 (enc i) _ _ (ih _ _ h0.2.1).1
        exact⟨fun m hr=>R.arr_map (f:=fun i=>t.atv (enc i) d.v) (g:=fun i=>t'.atv (enc i) d'.v) (fun i _=>hel i) hr,fun p z z' hz=>hz,fun i=>hel i⟩
      | _=>cases h
    | te =>
      cases w with
      | te=>exact⟨FzR.unk,fun p z z' hz=>hz,fun i=>FzR.unk⟩
      | _=>cases h
    | tb a b c d =>
      cases w with
      | tb a' b' c' d' =>
        have h0:nd (fzG br zm k a a') (nd (fzG br zm k b b') (nd (fzG br zm k c c') (fzG br zm k d d')))=true:=h
        simp only[nd_iff] at h0
        refine⟨FzR.unk,fun p z z' hz=>?_,fun i=>FzR.unk⟩
        cases p with
        | nil=>exact hz
        | cons g p=>exact subT_rel (P:=FzR br B C) (ih _ _ h0.1).2.1 (ih _ _ h0.2.1).2.1 (ih _ _ h0.2.2.1).2.1 (ih _ _ h0.2.2.2).2.1 g p z z' hz
      | _=>cases h
    | tn x a b c d =>
      cases w with
      | tn x' a' b' c' d' =>
        have h0:nd (fzG br zm k x x') (nd (fzG br zm k a a') (nd (fzG br zm k b b') (nd (fzG br zm k c c') (fzG br zm k d d'))))=true:=h
        simp only[nd_iff] at h0
        refine⟨FzR.unk,fun p z z' hz=>?_,fun i=>FzR.unk⟩
        cases p with
        | nil=>exact (ih _ _ h0.1).1
        | cons g p=>exact subT_rel (P:=FzR br B C) (ih _ _ h0.2.1).2.1 (ih _ _ h0.2.2.1).2.1 (ih _ _ h0.2.2.2.1).2.1 (ih _ _ h0.2.2.2.2).2.1 g p z z' hz
      | _=>cases h
    | row id e len =>
      cases w with
      | ro u cl e' off len' c =>
        cases cl with
        | true=>cases h
        | false =>
          have h0:nd (e.beq e') (nd (Nat.beq off 0) (nd (Nat.beq len len') (fzBk (fzG br zm k) (kb zm id) (fun b=>nd (arK b) (Nat.ble len (arZ b))) c)))=true:=h
          simp only[nd_iff] at h0
          obtain⟨h1,h2,h3,h4⟩:=h0
          obtain rfl:=Shape.eq_of_beq h1
          obtain rfl:=beqE h2
          obtain rfl:=beqE h3
          obtain⟨kd,sh,b,hb,q1,q2,q3⟩:=fzBk_s h4
          obtain⟨q2,q4⟩:=nd_iff.1 q2
          obtain⟨n,f,hf,hf'⟩:=arK_s q2
          refine⟨fun m hr=>?_,fun p z z' hz=>hz,fun i=>FzR.unk⟩
          rw[v_ro]
          refine R.row_fr hs (hsub _ _ (am_some hb)) (by rw[KBlk.b,isAl_eq]; exact q1) (f:=f) (by rw[KBlk.b]; exact hf) (fun i hi md hri=>?_) hr
          rw[hf',kidx_v] at hri
          rw[Nat.zero_add]
          exact (ih _ _ q3).2.2 i md hri
      | _=>cases h
    | ptr id p s =>
      cases w with
      | ref u s' c =>
        have h0:nd (s.beq s') (fzBk (fun b c=>fzG br zm k (kpath p b) c) (kb zm id) (fun b=>pthOk p b) c)=true:=h
        obtain⟨h1,h4⟩:=nd_iff.1 h0
        obtain rfl:=Shape.eq_of_beq h1
        obtain⟨kd,sh,b,hb,q1,q2,q3⟩:=fzBk_s h4
        refine⟨fun m hr=>?_,fun p z z' hz=>hz,fun i=>FzR.unk⟩
        rw[v_ref]
        refine R.ptr_fr hs (hsub _ _ (am_some hb)) (by rw[KBlk.b,isAl_eq]; exact q1) (fun md hri=>?_) hr
        rw[KBlk.b] at hri
        rw[←kpath_v p b q2] at hri
        exact (ih _ _ q3).1 md hri
      | _=>cases h
    | sl id p e off len cap =>
      cases w with
      | ro u cl e' off' len' c =>
        have h0:nd (e.beq e') (nd (Nat.beq off off') (nd (Nat.beq len len') (nd (cl==capIs cap len) (fzBk (fun b c=>fzG br zm k (kpath p b) c) (kb zm id) (fun b=>nd (pthOk p b) (nd (arK (kpath p b)) (Nat.ble (Nat.add off len) (arZ (kpath p b))))) c))))=true:=h
        simp only[nd_iff] at h0
        obtain⟨h1,h2,h3,h5,h4⟩:=h0
        obtain rfl:=Shape.eq_of_beq h1
        obtain rfl:=beqE h2
        obtain rfl:=beqE h3
        rw[beq_iff_eq] at h5
        subst h5
        obtain⟨kd,sh,b,hb,q1,q2,q3⟩:=fzBk_s h4
        simp only[nd_iff] at q2
        obtain⟨q2,q4,q5⟩:=q2
        obtain⟨n,f,hf,hf'⟩:=arK_s q4
        refine⟨fun m hr=>?_,fun p z z' hz=>hz,fun i=>FzR.unk⟩
        rw[v_ro]
        refine R.sl_fr hs (hsub _ _ (am_some hb)) (by rw[KBlk.b,isAl_eq]; exact q1) (f:=f) (n1:=n) (by rw[KBlk.b,←kpath_v p b q2]; exact hf) (fun i hi md hri=>?_) hr
        rw[hf',kidx_v] at hri
        exact (ih _ _ q3).2.2 (off + i) md hri
      | _=>cases h
theorem csoundF {E:KEnv}(hE:KOk E) {n k fid:Nat}{args:List KV}{w:KV}(h:callR E (krun E n) 0 fid args .e 0 0 fun r zm _ _=>tK (fzB zm k r w)) :
    CSoundG E.P fid { pre:=fun l=>@decide (l=args.map KV.v) (Classical.propDecidable _),res:=fun _=>w.v,fresh:=true }:=by
  have hme:MB (am (.e:KZ)) 0:=by rw[am_e]; exact emptyB 0
  refine⟨(callR_s (B:=0) (krun_ok hE n) hE h hme (Nat.le_refl 0)).1,fun C l vals hok hg hargs hpre=>?_⟩
  have hl:l=args.map KV.v:=@of_decide_eq_true _ (Classical.propDecidable _) hpre
  subst hl
  obtain⟨_,r,zm',nx',mx',h1,h2,h3⟩:=callR_s (B:=C.w.heap.size) (krun_ok hE n) hE h hme (Nat.le_refl 0)
  have h4:=tK_s h1
  have hz:GR C.w.heap.size (nx' + mx') C.pur (fun _=>none) (am .e) 0 :=
    ⟨⟨Nat.le_refl _,hok,(fun _ _ h=>(by cases h)),(fun _ _ h=>(by cases h)),(fun _ _ _ _ _ h=>(by cases h)),(fun _ _ _ h=>(by cases h)),hg⟩,(fun id b hb=>by rw[am_e] at hb; cases hb),fun _ _ _ h=>h⟩
  refine (h3 (nx' + mx') C.pur (fun _=>none) vals (by omega) (by omega) hz hargs).mono ?_
  rintro e w' ⟨val,he,C',M',hw,hR,hz',hc⟩
  subst hw
  refine⟨hc.kp.below,val,he,?_⟩
  have h5:=(fzG_s (br:=false) hz'.sr hz'.sub k r w h4).1 _ hR
  refine R.keep (C:=frC false C' C.w.heap.size) ?_ _ _ h5
  exact⟨fun _ h=>h.elim,fun _ h=>h.elim,fun _ h=>h.elim,fun u b hb=>hb.elim (fun h=>by cases h.1) Or.inr,fun _ _ _=>rfl⟩
omit [KGl] in
theorem unL_mkL' (l:List V):unL (mkL l)=l:=by
  induction l with
  | nil=>rfl
  | cons x r ih=>show x::unL (mkL r)=_; rw[ih]
theorem kconF_s {E:KEnv}(hE:KOk E) {n k fid:Nat}{args:List KV}{w:KV}(h:callR E (krun E n) 0 fid args .e 0 0 fun r zm _ _=>tK (fzB zm k r w)):KCS E.P fid (kcon args w):=by
  have hc:=csoundF hE h
  refine⟨hc.1,fun l K hs=>?_⟩
  obtain⟨h1,h2⟩:=chk_inv hs
  obtain rfl:=kvbs_s h1
  refine⟨w,h2,fun B μ nx mx l0 hl0=>?_⟩
  have:=con_call (B:=B) (μ:=μ) (nx:=nx) (mx:=mx) hE.gn hc rfl hl0 (by rw[unL_mkL']; exact @decide_eq_true _ (Classical.propDecidable _) rfl)
  exact this
theorem kcsP {P:Program}{fid:FuncId}{s:KSpec}(hf:∃ fn,P.funcs[fid]?=some fn∧(fn.name == "runtime.NumGoroutine")=false∧fn.body.isNone=false)
    (h:∀ l K,s l K→∃ E:KEnv,KOk E∧E.P=P∧∃(n:Nat) (Q:KV→Prop) (w:KV),K w∧noRef w.v=true∧(∀ r:KV,Q r→Imp r.v w.v)∧callR E (krun E n) 0 fid l .e 0 0 fun r _ _ _=>Q r):KCS P fid s:=by
  refine⟨hf,fun l K hs=>?_⟩
  obtain⟨E,hE,rfl,n,Q,w,h1,h2,h3,h4⟩:=h l K hs
  have hc:CSoundG E.P fid { pre:=fun l'=>@decide (l'=l.map KV.v) (Classical.propDecidable _),res:=fun _=>w.v,fresh:=true }:=by
    have hme:MB (am (.e:KZ)) 0:=by rw[am_e]; exact emptyB 0
    refine⟨hf,fun C l' vals hok hg hargs hpre=>?_⟩
    have hl:l'=l.map KV.v:=@of_decide_eq_true _ (Classical.propDecidable _) hpre
    subst hl
    obtain⟨_,r,zm',nx',mx',q1,q2,q3⟩:=callR_s (B:=C.w.heap.size) (krun_ok hE n) hE h4 hme (Nat.le_refl 0)
    have hz:GR C.w.heap.size (nx' + mx') C.pur (fun _=>none) (am .e) 0 :=
      ⟨⟨Nat.le_refl _,hok,(fun _ _ h=>(by cases h)),(fun _ _ h=>(by cases h)),(fun _ _ _ _ _ h=>(by cases h)),(fun _ _ _ h=>(by cases h)),hg⟩,(fun id b hb=>by rw[am_e] at hb; cases hb),fun _ _ _ h=>h⟩
    refine (q3 (nx' + mx') C.pur (fun _=>none) vals (by omega) (by omega) hz hargs).mono ?_
    rintro e w' ⟨val,he,C',M',hw,hR,_,hc⟩
    subst hw
    exact⟨hc.kp.below,val,he,R.noref _ h2 (h3 r q1 _ _ hR)⟩
  refine⟨w,h1,fun B μ nx mx l0 hl0=>?_⟩
  exact con_call (B:=B) (μ:=μ) (nx:=nx) (mx:=mx) hE.gn hc rfl hl0 (by rw[unL_mkL']; exact @decide_eq_true _ (Classical.propDecidable _) rfl)
theorem kcsE {P:Program}{fid:FuncId}{s:KSpec}(hf:∃ fn,P.funcs[fid]?=some fn∧(fn.name == "runtime.NumGoroutine")=false∧fn.body.isNone=false)
    (h:∀ l K,s l K→∃ E:KEnv,KOk E∧E.P=P∧∃ n v w,K w∧noRef w.v=true∧Imp v.v w.v∧callR E (krun E n) 0 fid l .e 0 0 fun r _ _ _=>r=v):KCS P fid s :=
  kcsP hf fun l K hs=>by
    obtain⟨E,hE,hP,n,v,w,h1,h2,h3,h4⟩:=h l K hs
    exact⟨E,hE,hP,n,fun r=>r=v,w,h1,h2,fun r hr=>by rw[hr]; exact h3,h4⟩
theorem kcsQ {E:KEnv}(hE:KOk E) {fid:Nat}{s:KSpec}(hf:∃ fn,E.P.funcs[fid]?=some fn∧(fn.name == "runtime.NumGoroutine")=false∧fn.body.isNone=false)
    (h:∀ l K,s l K→∃ n v w,K w∧noRef w.v=true∧Imp v.v w.v∧callR E (krun E n) 0 fid l .e 0 0 fun r _ _ _=>r=v):KCS E.P fid s :=
  kcsE hf fun l K hs=>⟨E,hE,rfl,h l K hs⟩
def errQ (e:KV) (r:KV):Prop:=onTup (fun l=>onCons (fun _ b=>onCons (fun c d=>onNl (tK (kvb c e)) (BadN 320) d) (BadN 321) b) (BadN 322) l) (BadN 323) r
omit [KGl] in
theorem errQ_s {e r:KV}(h:errQ e r):Imp r.v (KV.tup (.cons .unk (.cons e .nl))).v:=by
  rcases onTup_inv h with ⟨l,rfl,h1⟩ | ⟨_,h1⟩
  · rcases onCons_inv h1 with ⟨a,b,rfl,h2⟩ | ⟨_,h2⟩
    · rcases onCons_inv h2 with ⟨c,d,rfl,h3⟩ | ⟨_,h3⟩
      · rcases onNl_inv h3 with ⟨rfl,h4⟩ | ⟨_,h4⟩
        · obtain rfl:=kvb_s (tK_s h4)
          rintro C m hr
          cases m with
          | val v =>
            obtain⟨cs,q1,y,ys,q2,q3,q4⟩:=hr
            exact⟨cs,q1,y,ys,q2,trivial,q4⟩
          | cel=>exact hr
          | list=>exact hr
        · exact h4.elim
      · exact h3.elim
    · exact h2.elim
  · exact h1.elim
theorem kcsF {P:Program}{fid:FuncId}{s:KSpec}(hf:∃ fn,P.funcs[fid]?=some fn∧(fn.name == "runtime.NumGoroutine")=false∧fn.body.isNone=false)
    (h:∀ l K,s l K→∃ E:KEnv,KOk E∧E.P=P∧∃ n k w,K w∧callR E (krun E n) 0 fid l .e 0 0 fun r zm _ _=>tK (fzB zm k r w)):KCS P fid s:=by
  refine⟨hf,fun l K hs=>?_⟩
  obtain⟨E,hE,rfl,n,k,w,h1,h4⟩:=h l K hs
  have hc:=csoundF hE h4
  refine⟨w,h1,fun B μ nx mx l0 hl0=>?_⟩
  exact con_call (B:=B) (μ:=μ) (nx:=nx) (mx:=mx) hE.gn hc rfl hl0 (by rw[unL_mkL']; exact @decide_eq_true _ (Classical.propDecidable _) rfl)
end
end Go.K
namespace Go.K
open Go.Ab Go.RowKit Go.Y
noncomputable section
theorem SR.inst {i j:Gl}(h:∀ g,i.G g=j.G g) {B:Nat}{C:Ctx}{m:Mem}(s:@SR i B C m):@SR j B C m:=by
  obtain⟨q1,q2,q3,q4,q5,q6,q7⟩:=s
  exact @SR.mk j B C m q1 q2 q3 q4 q5 q6 fun g=>by rw[←h g]; exact q7 g
theorem GR.inst {i j:Gl}(h:∀ g,i.G g=j.G g) {B H:Nat}{C:Ctx}{M μ:Mem}{nx:Nat}(s:@GR i B H C M μ nx):@GR j B H C M μ nx:=by
  obtain⟨q1,q2,q3⟩:=s
  exact @GR.mk j B H C M μ nx (SR.inst h q1) q2 q3
theorem Lend.inst {i j:Gl}(h:∀ g,i.G g=j.G g) {B:Nat}{μ:Mem}{l0 l:List V}(s:@Lend i B μ l0 l):@Lend j B μ l0 l :=
  fun C M vals hs hm hr=>s C M vals (SR.inst (fun g=>(h g).symm) hs) hm hr
theorem GCall.inst {i j:Gl}(h:∀ g,i.G g=j.G g) {P:Program}{B:Nat}{fid:FuncId}{l:List V}{μ μ':Mem}{nx nx' mx':Nat}{v:V}(s:@GCall i P B fid l μ nx v μ' nx' mx'):@GCall j P B fid l μ nx v μ' nx' mx':=by
  intro H C M vals h1 h2 hz hl
  refine (s H C M vals h1 h2 (GR.inst (fun g=>(h g).symm) hz) hl).mono ?_
  rintro e w' ⟨val,he,C',M',hw,hR,hz',hc⟩
  exact⟨val,he,C',M',hw,hR,GR.inst h hz',hc⟩
@[reducible] def opnG (k:KGl):KGl:={ g:=k.g,cl:=false }
theorem KCS.opn {k:KGl}{P:Program}{fid:FuncId}{s:KSpec}(h:@KCS k P fid s):@KCS (opnG k) P fid s:=by
  refine⟨h.1,fun l K hs=>?_⟩
  obtain⟨v,h1,h2⟩:=h.2 l K hs
  exact⟨v,h1,fun B μ nx mx l0 hl=>GCall.inst (i:=@instGl k) (j:=@instGl (opnG k)) (fun _=>rfl) (h2 B μ nx mx l0 (Lend.inst (i:=@instGl (opnG k)) (j:=@instGl k) (fun _=>rfl) hl))⟩
theorem KCS.cls {k:KGl}{P:Program}{fid:FuncId}{s:KSpec}(h:@KCS (opnG k) P fid s):@KCS k P fid s:=by
  refine⟨h.1,fun l K hs=>?_⟩
  obtain⟨v,h1,h2⟩:=h.2 l K hs
  exact⟨v,h1,fun B μ nx mx l0 hl=>GCall.inst (i:=@instGl (opnG k)) (j:=@instGl k) (fun _=>rfl) (h2 B μ nx mx l0 (Lend.inst (i:=@instGl k) (j:=@instGl (opnG k)) (fun _=>rfl) hl))⟩
theorem KCSb.opn {k:KGl}{P:Program}{fid:FuncId}{s:KSpec}(h:@KCSb k P fid s):@KCSb (opnG k) P fid s:=by
  refine⟨h.1,fun l K hs=>?_⟩
  obtain⟨v,h1,h2⟩:=h.2 l K hs
  exact⟨v,h1,fun hb B μ nx mx=>GCall.inst (i:=@instGl k) (j:=@instGl (opnG k)) (fun _=>rfl) (h2 hb B μ nx mx)⟩
def ctL (l:List (Nat×KSpec)) (f:FuncId):Option KSpec:=@List.rec (Nat×KSpec) (fun _=>Option KSpec) none (fun x _ ih=>@Bool.rec (fun _=>Option KSpec) ih (some x.2) (Nat.beq f x.1)) l
def allC [KGl] (P:Program):List (Nat×KSpec)→Prop
  | []=>True
  | x::l=>KCS P x.1 x.2∧allC P l
theorem ctL_s [KGl] {P:Program}:∀ {l:List (Nat×KSpec)},allC P l→∀ f s,ctL l f=some s→KCS P f s
  | [],_,f,s,h=>by cases h
  | x::l,hl,f,s,h=>by
    replace h:@Bool.rec (fun _=>Option KSpec) (ctL l f) (some x.2) (Nat.beq f x.1)=some s:=h
    cases h1:Nat.beq f x.1 with
    | true =>
      rw[h1] at h; cases h
      obtain rfl:=beqE h1
      exact hl.1
    | false=>rw[h1] at h; exact ctL_s hl.2 f s h
def sDead:KSpec:=fun _ _=>False
theorem sDead_s [KGl] {P:Program}{fid:FuncId}(hf:∃ fn,P.funcs[fid]?=some fn∧(fn.name == "runtime.NumGoroutine")=false∧fn.body.isNone=false):KCS P fid sDead:=⟨hf,fun _ _ h=>h.elim⟩
def KEnv.tab (E:KEnv) (l:List (Nat×KSpec)):KEnv:={ E with ct:=ctL l }
theorem KOk.tab [KGl] {E:KEnv}(hE:KOk E) {l:List (Nat×KSpec)}(h:allC E.P l):KOk (E.tab l):=⟨hE.fns,ctL_s h,hE.gn,hE.mixed,hE.ex,hE.cb,hE.as⟩
theorem AsOk.opn {k:KGl}{P:Program}{f T PT:Nat}(h:@AsOk k P f T PT):@AsOk (opnG k) P f T PT :=
  ⟨h.1,fun B μ nx mx id s x y h1 h2 h3 h4=>GCall.inst (i:=@instGl k) (j:=@instGl (opnG k)) (fun _=>rfl) (h.2 B μ nx mx id s x y h1 h2 h3 h4)⟩
def allCb [KGl] (P:Program):List (Nat×KSpec)→Prop
  | []=>True
  | x::l=>KCSb P x.1 x.2∧allCb P l
theorem ctLb_s [KGl] {P:Program}:∀ {l:List (Nat×KSpec)},allCb P l→∀ f s,ctL l f=some s→KCSb P f s
  | [],_,f,s,h=>by cases h
  | x::l,hl,f,s,h=>by
    replace h:@Bool.rec (fun _=>Option KSpec) (ctL l f) (some x.2) (Nat.beq f x.1)=some s:=h
    cases h1:Nat.beq f x.1 with
    | true =>
      rw[h1] at h; cases h
      obtain rfl:=beqE h1
      exact hl.1
    | false=>rw[h1] at h; exact ctLb_s hl.2 f s h
def KEnv.tabB (E:KEnv) (l:List (Nat×KSpec)):KEnv:={ E with cb:=ctL l }
theorem KOk.tabB [KGl] {E:KEnv}(hE:KOk E) {l:List (Nat×KSpec)}(h:allCb E.P l):KOk (E.tabB l):=⟨hE.fns,hE.ct,hE.gn,hE.mixed,hE.ex,ctLb_s h,hE.as⟩
theorem KOk.opn {k:KGl}{E:KEnv}(h:@KOk k E):@KOk (opnG k) E:=by
  obtain⟨h1,h2,h3,h4,h5,h6,h7⟩:=h
  exact @KOk.mk (opnG k) E h1 (fun f s hs=>(h2 f s hs).opn) h3 h4 h5 (fun f s hs=>(h6 f s hs).opn) (fun f T PT hs=>(h7 f T PT hs).opn)
theorem Imp.tup {a b:V}(h:Imp a b):Imp (.tup a) (.tup b):=fun C m hr=>R.tup_map (fun m hr=>h C m hr) hr
theorem Imp.consL {a b a' b':V}(h1:∀ C x,R C a (.val x)→R C a' (.val x)) (h2:∀ C l,R C b (.list l)→R C b' (.list l)):∀ C l,R C (.cons a b) (.list l)→R C (.cons a' b') (.list l):=by
  rintro C l ⟨y,ys,q1,q2,q3⟩
  exact⟨y,ys,q1,h1 _ _ q2,h2 _ _ q3⟩
theorem Imp.tupL {a b:V}(h:∀ C l,R C a (.list l)→R C b (.list l)):Imp (.tup a) (.tup b):=fun C m hr=>by
  cases m with
  | val v=>obtain⟨cs,q1,q2⟩:=hr; exact⟨cs,q1,h _ _ q2⟩
  | cel=>exact hr
  | list=>exact hr
end
end Go.K
namespace Go.K
open Go.Ab Go.RowKit Go.Y
noncomputable section
variable [KGl]
def kvbsR (l m:List KV):Bool:=@List.rec KV (fun _=>List KV→Bool) (fun m=>@List.rec KV (fun _=>Bool) true (fun _ _ _=>false) m) (fun x _ ih m=>@List.rec KV (fun _=>Bool) false (fun y m _=>nd (ih m) (kvb x y)) m) l m
omit [KGl] in
theorem kvbsR_s:∀ {l m:List KV},kvbsR l m=true→l=m
  | [],[],_=>rfl
  | [],y::m,h=>by cases (show false=true from h)
  | x::l,[],h=>by cases (show false=true from h)
  | x::l,y::m,h=>by
    replace h:nd (kvbsR l m) (kvb x y)=true:=h
    rw[nd_iff] at h
    rw[kvbsR_s h.1,kvb_s h.2]
def sMem (L:List (List KV×KV)):KSpec:=fun l K=>@List.rec (List KV×KV) (fun _=>Prop) (BadN 320) (fun x _ ih=>@Bool.rec (fun _=>Prop) ih (K x.2) (kvbsR l x.1)) L
def allM (P:Program) (fid:FuncId) (L:List (List KV×KV)):Prop:=@List.rec (List KV×KV) (fun _=>Prop) True (fun x _ ih=>KCS P fid (kcon x.1 x.2)∧kvbs x.1 x.1=true∧ih) L
theorem sMem_s {P:Program}{fid:FuncId}(hf:∃ fn,P.funcs[fid]?=some fn∧(fn.name == "runtime.NumGoroutine")=false∧fn.body.isNone=false):∀ {L:List (List KV×KV)},allM P fid L→KCS P fid (sMem L)
  | [],_=>⟨hf,fun l K h=>(show BadN 320 from h).elim⟩
  | x::L,hL=>by
    obtain⟨h1,h2,h3⟩:=(show KCS P fid (kcon x.1 x.2)∧kvbs x.1 x.1=true∧allM P fid L from hL)
    refine⟨hf,fun l K h=>?_⟩
    replace h:@Bool.rec (fun _=>Prop) (sMem L l K) (K x.2) (kvbsR l x.1):=h
    cases hk:kvbsR l x.1 with
    | true =>
      rw[hk] at h
      obtain rfl:=kvbsR_s hk
      exact h1.2 x.1 K (by show chk (kvbs x.1 x.1) 190 (K x.2); rw[h2]; exact h)
    | false=>rw[hk] at h; exact (sMem_s hf h3).2 l K h
def KEnv.olo (E:KEnv) (g:FuncId→Bool):KEnv:={ E with ol:=g }
theorem KOk.olo {E:KEnv}(h:KOk E) (g:FuncId→Bool):KOk (E.olo g):=⟨h.fns,h.ct,h.gn,h.mixed,h.ex,h.cb,h.as⟩
end
end Go.K
namespace Go.K
open Go.Ab Go.RowKit Go.Y
noncomputable section
variable [KGl]
def wrun (E:KEnv):RUN:=fun mask lo c tr zm nx mx K=>∀ B N,cOk N c=true→MB (am zm) nx→lo≤nx→INV mask tr →
  ∃ e tr' zm' nx' mx',K e tr' zm' nx' mx'∧KFin lo zm nx mx zm' nx' mx'∧INV mask tr'∧GRuns E.P B c (tv' (tget tr)) (am zm) nx N e (tv' (tget tr')) (am zm') nx' mx'
def wloop (E:KEnv):RUN:=fun mask lo c tr zm nx mx K=>∀ B N,cOk N c=true→MB (am zm) nx→lo≤nx→INV mask tr →
  ∃ e tr' zm' nx' mx' k,K e tr' zm' nx' mx'∧KFin lo zm nx mx zm' nx' mx'∧INV mask tr'∧GLoop E.P B c N e (tv' (tget tr')) (am zm') nx' mx' k (tv' (tget tr)) (am zm) nx
section
variable {E:KEnv}{mask lo:Nat}{c:Code}{tr:KTm}{zm:KZ}{nx mx:Nat}{K:K3}
theorem wrun_ok (B:Nat):KRunOK E B (wrun E):=fun _ _ _ _ _ _ _ _ N h h1 h2 h3 h4=>h B N h1 h2 h3 h4
theorem wrun_of (hE:KOk E) {n:Nat}(h:krun E n mask lo c tr zm nx mx K):wrun E mask lo c tr zm nx mx K:=fun _ N h1 h2 h3 h4=>krun_ok hE n mask lo c tr zm nx mx K N h h1 h2 h3 h4
theorem wrun.mono {K':K3}(h:wrun E mask lo c tr zm nx mx K) (hk:∀ e tr zm nx mx,K e tr zm nx mx→K' e tr zm nx mx):wrun E mask lo c tr zm nx mx K':=fun B N h1 h2 h3 h4=>by
  obtain⟨e,tr',zm',nx',mx',q,r⟩:=h B N h1 h2 h3 h4
  exact⟨e,tr',zm',nx',mx',hk _ _ _ _ _ q,r⟩
theorem wrun.seq {a b:Code}(h:wrun E mask lo a tr zm nx mx (fun e tr zm nx mx=>(e=.normal∧wrun E mask lo b tr zm nx mx K)∨(e≠.normal∧K e tr zm nx mx))):wrun E mask lo (.seq a b) tr zm nx mx K:=fun B N h1 h2 h3 h4=>by
  simp only[cOk,Bool.and_eq_true] at h1
  obtain⟨e,tr1,zm1,nx1,mx1,q,f1,i1,g1⟩:=h B N h1.1 h2 h3 h4
  rcases q with ⟨rfl,q⟩ | ⟨he,q⟩
  · obtain⟨e2,tr2,zm2,nx2,mx2,q2,f2,i2,g2⟩:=q B N h1.2 f1.mb (Nat.le_trans h3 f1.nx) i1
    exact⟨e2,tr2,zm2,nx2,mx2,q2,f1.trans f2,i2,GRuns.seq g1 g2 f1.nx f2.nx f2.mx⟩
  · exact⟨e,tr1,zm1,nx1,mx1,q,f1,i1,GRuns.seqX he g1⟩
theorem wrun.block {id:Nat}(h:wrun E mask lo c tr zm nx mx (fun e tr zm nx mx=>(e=.exit id∧K .normal tr zm nx mx)∨(e≠.exit id∧K e tr zm nx mx))):wrun E mask lo (.block id c) tr zm nx mx K:=fun B N h1 h2 h3 h4=>by
  obtain⟨e,tr1,zm1,nx1,mx1,q,f1,i1,g1⟩:=h B N h1 h2 h3 h4
  rcases q with ⟨rfl,q⟩ | ⟨he,q⟩
  · exact⟨.normal,tr1,zm1,nx1,mx1,q,f1,i1,GRuns.blockE g1⟩
  · exact⟨e,tr1,zm1,nx1,mx1,q,f1,i1,GRuns.blockX he g1⟩
theorem wloop.run (h:wloop E mask lo c tr zm nx mx K):wrun E mask lo (.loop c) tr zm nx mx K:=fun B N h1 h2 h3 h4=>by
  obtain⟨e,tr1,zm1,nx1,mx1,k,q,f1,i1,g1⟩:=h B N h1 h2 h3 h4
  exact⟨e,tr1,zm1,nx1,mx1,q,f1,i1,g1.runs⟩
theorem wloop.out (h:wrun E mask lo c tr zm nx mx (fun e tr zm nx mx=>e≠.normal∧K e tr zm nx mx)):wloop E mask lo c tr zm nx mx K:=fun B N h1 h2 h3 h4=>by
  obtain⟨e,tr1,zm1,nx1,mx1,⟨he,q⟩,f1,i1,g1⟩:=h B N h1 h2 h3 h4
  exact⟨e,tr1,zm1,nx1,mx1,1,q,f1,i1,.out g1 he f1.nx⟩
theorem wloop.round (h:wrun E mask lo c tr zm nx mx (fun e tr zm nx mx=>e=.normal∧wloop E mask lo c tr zm nx mx K)):wloop E mask lo c tr zm nx mx K:=fun B N h1 h2 h3 h4=>by
  obtain⟨e,tr1,zm1,nx1,mx1,⟨rfl,q⟩,f1,i1,g1⟩:=h B N h1 h2 h3 h4
  obtain⟨e2,tr2,zm2,nx2,mx2,k,q2,f2,i2,g2⟩:=q B N h1 f1.mb (Nat.le_trans h3 f1.nx) i1
  exact⟨e2,tr2,zm2,nx2,mx2,k + 1,q2,f1.trans f2,i2,.round g1 f1.nx f2.mx g2⟩
def repR (E:KEnv) (n:Nat) (mask lo:Nat) (c:Code) (m:Nat):KTm→KZ→Nat→Nat→(KTm→KZ→Nat→Nat→Prop)→Prop :=
  @Nat.rec (fun _=>KTm→KZ→Nat→Nat→(KTm→KZ→Nat→Nat→Prop)→Prop) (fun tr zm nx mx K=>K tr zm nx mx) (fun _ ih tr zm nx mx K=>krun E n mask lo c tr zm nx mx fun e tr zm nx mx=>chk (exB e .normal) 0 (ih tr zm nx mx K)) m
theorem wloop.rep (hE:KOk E) {n:Nat}:∀(m:Nat) (tr:KTm) (zm:KZ) (nx mx:Nat),repR E n mask lo c m tr zm nx mx (fun tr zm nx mx=>wloop E mask lo c tr zm nx mx K)→wloop E mask lo c tr zm nx mx K
  | 0,_,_,_,_,h=>h
  | m + 1,tr,zm,nx,mx,h=>wloop.round ((wrun_of hE (show krun E n mask lo c tr zm nx mx _ from h)).mono fun e tr1 zm1 nx1 mx1 q=>by
    obtain⟨q1,q2⟩:=chk_inv q
    exact⟨exB_s q1,wloop.rep hE m _ _ _ _ q2⟩)
theorem wrun.lit {e0:Exit}{lt:List (Nat×KV)}{lz:List (Nat×KBlk)}{n1:Nat}(h:wrun E mask 0 c tr zm nx mx fun e tr zm nx _=>tK (stT e0 lt lz n1 e tr zm nx)) (hk:keepL mask lt=true)
    (hq:∀ mx,K e0 (mkTr lt) (mkZm lz) n1 mx):wrun E mask 0 c tr zm nx mx K:=fun B N h1 h2 h3 h4=>by
  obtain⟨e,tr1,zm1,nx1,mx1,q,f1,i1,g1⟩:=h B N h1 h2 h3 h4
  have hs:=tK_s q
  simp only[stT,nd_iff] at hs
  obtain rfl:=exB_s hs.1
  have hn:=Nat.le_of_ble_eq_true hs.2.2.2
  have ht:TImp (tv' (tget tr1)) (tv' (tget (mkTr lt))):=fun t x C hx=>by
    show R C (tv' (tget (mkTr lt)) t) _
    have hx':R C (tv' (tget tr1) t) (.val x):=hx
    unfold tv' at hx' ⊢
    rcases tget_mk (t:=t) (l:=lt) with q | ⟨v,q1,q2⟩
    · rw[q]; trivial
    · rw[q2,←trT_s hs.2.1 t v q1]; exact hx'
  have hm:MImp (am zm1) (am (mkZm lz)):=fun id b hb=>by
    unfold am at hb
    rcases kb_mk (id:=id) (l:=lz) with q | ⟨b',q1,q2⟩
    · rw[q] at hb; cases hb
    · rw[q2] at hb
      cases hb
      exact⟨_,am_some (zmT_s hs.2.2.1 id b' q1),BImp.refl _⟩
  refine⟨e,mkTr lt,mkZm lz,n1,mx1,hq mx1,⟨fun id hid=>?_,Nat.le_trans f1.nx hn,f1.mx,fun _ h=>absurd h (Nat.not_lt_zero _)⟩,INV.mk hk,g1.imp ht hm hn (Nat.le_refl _)⟩
  cases hz:am (mkZm lz) id with
  | none=>rfl
  | some b =>
    obtain⟨b',hb',_⟩:=hm id b hz
    rw[f1.mb id (by omega)] at hb'
    cases hb'
theorem wrun.piece (hE:KOk E) {n:Nat}{e0:Exit}{lt:List (Nat×KV)}{lz:List (Nat×KBlk)}{n1:Nat}(h:krun E n mask 0 c tr zm nx mx fun e tr zm nx _=>tK (stT e0 lt lz n1 e tr zm nx)) (hk:keepL mask lt=true)
    (hq:∀ mx,K e0 (mkTr lt) (mkZm lz) n1 mx):wrun E mask 0 c tr zm nx mx K:=wrun.lit (wrun_of hE h) hk hq
theorem wloop.piece (hE:KOk E) {n:Nat}{lt:List (Nat×KV)}{lz:List (Nat×KBlk)}{n1:Nat}(hk:keepL mask lt=true) (hq:∀ mx,wloop E mask 0 c (mkTr lt) (mkZm lz) n1 mx K) :
    ∀(m:Nat) (tr:KTm) (zm:KZ) (nx mx:Nat),repR E n mask 0 c (m + 1) tr zm nx mx (fun tr zm nx _=>tK (stT .normal lt lz n1 .normal tr zm nx))→wloop E mask 0 c tr zm nx mx K
  | 0,tr,zm,nx,mx,h=>wloop.round (wrun.lit (e0:=.normal) (lt:=lt) (lz:=lz) (n1:=n1) ((wrun_of hE (show krun E n mask 0 c tr zm nx mx _ from h)).mono fun e tr1 zm1 nx1 mx1 q=>by
    obtain⟨q1,q2⟩:=chk_inv q
    rw[exB_s q1]; exact q2) hk fun mx=>⟨rfl,hq mx⟩)
  | m + 1,tr,zm,nx,mx,h=>wloop.round ((wrun_of hE (show krun E n mask 0 c tr zm nx mx _ from h)).mono fun e tr1 zm1 nx1 mx1 q=>by
    obtain⟨q1,q2⟩:=chk_inv q
    exact⟨exB_s q1,wloop.piece hE hk hq m _ _ _ _ q2⟩)
end
theorem kconW_s {E:KEnv}(hE:KOk E) {k fid:Nat}{args:List KV}{w:KV}(h:callR E (wrun E) 0 fid args .e 0 0 fun r zm _ _=>tK (fzB zm k r w)):KCS E.P fid (kcon args w):=by
  have hc:CSoundG E.P fid { pre:=fun l=>@decide (l=args.map KV.v) (Classical.propDecidable _),res:=fun _=>w.v,fresh:=true }:=by
    have hme:MB (am (.e:KZ)) 0:=by rw[am_e]; exact emptyB 0
    refine⟨(callR_s (B:=0) (wrun_ok 0) hE h hme (Nat.le_refl 0)).1,fun C l vals hok hg hargs hpre=>?_⟩
    have hl:l=args.map KV.v:=@of_decide_eq_true _ (Classical.propDecidable _) hpre
    subst hl
    obtain⟨_,r,zm',nx',mx',h1,h2,h3⟩:=callR_s (B:=C.w.heap.size) (wrun_ok _) hE h hme (Nat.le_refl 0)
    have h4:=tK_s h1
    have hz:GR C.w.heap.size (nx' + mx') C.pur (fun _=>none) (am .e) 0 :=
      ⟨⟨Nat.le_refl _,hok,(fun _ _ h=>(by cases h)),(fun _ _ h=>(by cases h)),(fun _ _ _ _ _ h=>(by cases h)),(fun _ _ _ h=>(by cases h)),hg⟩,(fun id b hb=>by rw[am_e] at hb; cases hb),fun _ _ _ h=>h⟩
    refine (h3 (nx' + mx') C.pur (fun _=>none) vals (by omega) (by omega) hz hargs).mono ?_
    rintro e w' ⟨val,he,C',M',hw,hR,hz',hc⟩
    subst hw
    refine⟨hc.kp.below,val,he,?_⟩
    have h5:=(fzG_s (br:=false) hz'.sr hz'.sub k r w h4).1 _ hR
    refine R.keep (C:=frC false C' C.w.heap.size) ?_ _ _ h5
    exact⟨fun _ h=>h.elim,fun _ h=>h.elim,fun _ h=>h.elim,fun u b hb=>hb.elim (fun h=>by cases h.1) Or.inr,fun _ _ _=>rfl⟩
  refine⟨hc.1,fun l K hs=>?_⟩
  obtain⟨h1,h2⟩:=chk_inv hs
  obtain rfl:=kvbs_s h1
  refine⟨w,h2,fun B μ nx mx l0 hl0=>?_⟩
  exact con_call (B:=B) (μ:=μ) (nx:=nx) (mx:=mx) hE.gn hc rfl hl0 (by rw[unL_mkL']; exact @decide_eq_true _ (Classical.propDecidable _) rfl)
end
end Go.K
namespace Go.K
open Go.Ab Go.RowKit Go.Y
noncomputable section
variable [KGl]
def litT (e0:Exit) (lt:List (Nat×KV)) (lz:List (Nat×KBlk)) (n1 m1:Nat):K3:=fun e tr zm nx mx=>tK (nd (stT e0 lt lz n1 e tr zm nx) (Nat.ble mx m1))
section
variable {E:KEnv}{mask:Nat}{c:Code}{tr:KTm}{zm:KZ}{nx mx:Nat}{K:K3}
theorem wrun.litM {e0:Exit}{lt:List (Nat×KV)}{lz:List (Nat×KBlk)}{n1 m1:Nat}(h:wrun E mask 0 c tr zm nx mx (litT e0 lt lz n1 m1)) (hk:keepL mask lt=true)
    (hq:K e0 (mkTr lt) (mkZm lz) n1 m1):wrun E mask 0 c tr zm nx mx K:=fun B N h1 h2 h3 h4=>by
  obtain⟨e,tr1,zm1,nx1,mx1,q,f1,i1,g1⟩:=h B N h1 h2 h3 h4
  have hs:=tK_s q
  simp only[stT,nd_iff] at hs
  obtain⟨hs,hmx⟩:=hs
  obtain rfl:=exB_s hs.1
  have hn:=Nat.le_of_ble_eq_true hs.2.2.2
  have hm1:=Nat.le_of_ble_eq_true hmx
  have ht:TImp (tv' (tget tr1)) (tv' (tget (mkTr lt))):=fun t x C hx=>by
    show R C (tv' (tget (mkTr lt)) t) _
    have hx':R C (tv' (tget tr1) t) (.val x):=hx
    unfold tv' at hx' ⊢
    rcases tget_mk (t:=t) (l:=lt) with q | ⟨v,q1,q2⟩
    · rw[q]; trivial
    · rw[q2,←trT_s hs.2.1 t v q1]; exact hx'
  have hm:MImp (am zm1) (am (mkZm lz)):=fun id b hb=>by
    unfold am at hb
    rcases kb_mk (id:=id) (l:=lz) with q | ⟨b',q1,q2⟩
    · rw[q] at hb; cases hb
    · rw[q2] at hb
      cases hb
      exact⟨_,am_some (zmT_s hs.2.2.1 id b' q1),BImp.refl _⟩
  refine⟨e,mkTr lt,mkZm lz,n1,m1,hq,⟨fun id hid=>?_,Nat.le_trans f1.nx hn,Nat.le_trans f1.mx hm1,fun _ h=>absurd h (Nat.not_lt_zero _)⟩,INV.mk hk,g1.imp ht hm hn hm1⟩
  cases hz:am (mkZm lz) id with
  | none=>rfl
  | some b =>
    obtain⟨b',hb',_⟩:=hm id b hz
    rw[f1.mb id (by omega)] at hb'
    cases hb'
theorem wrun.pieceM (hE:KOk E) {n:Nat}{e0:Exit}{lt:List (Nat×KV)}{lz:List (Nat×KBlk)}{n1 m1:Nat}(h:krun E n mask 0 c tr zm nx mx (litT e0 lt lz n1 m1)) (hk:keepL mask lt=true)
    (hq:K e0 (mkTr lt) (mkZm lz) n1 m1):wrun E mask 0 c tr zm nx mx K:=wrun.litM (wrun_of hE h) hk hq
theorem wloop.pieceM (hE:KOk E) {n:Nat}{lt:List (Nat×KV)}{lz:List (Nat×KBlk)}{n1 m1:Nat}(hk:keepL mask lt=true) (hq:wloop E mask 0 c (mkTr lt) (mkZm lz) n1 m1 K) :
    ∀(m:Nat) (tr:KTm) (zm:KZ) (nx mx:Nat),repR E n mask 0 c (m + 1) tr zm nx mx (fun tr zm nx mx=>litT .normal lt lz n1 m1 .normal tr zm nx mx)→wloop E mask 0 c tr zm nx mx K
  | 0,tr,zm,nx,mx,h=>wloop.round (wrun.litM (e0:=.normal) (lt:=lt) (lz:=lz) (n1:=n1) (m1:=m1) ((wrun_of hE (show krun E n mask 0 c tr zm nx mx _ from h)).mono fun e tr1 zm1 nx1 mx1 q=>by
    obtain⟨q1,q2⟩:=chk_inv q
    rw[exB_s q1]; exact q2) hk ⟨rfl,hq⟩)
  | m + 1,tr,zm,nx,mx,h=>wloop.round ((wrun_of hE (show krun E n mask 0 c tr zm nx mx _ from h)).mono fun e tr1 zm1 nx1 mx1 q=>by
    obtain⟨q1,q2⟩:=chk_inv q
    exact⟨exB_s q1,wloop.pieceM hE hk hq m _ _ _ _ q2⟩)
theorem wloop.endM (hE:KOk E) {n:Nat}{e0:Exit}{lt:List (Nat×KV)}{lz:List (Nat×KBlk)}{n1 m1:Nat}(m:Nat) (hk:keepL mask lt=true) (hn:exB e0 .normal=false) (hq:K e0 (mkTr lt) (mkZm lz) n1 m1)
    (h:repR E n mask 0 c m tr zm nx mx (fun tr zm nx mx=>krun E n mask 0 c tr zm nx mx (litT e0 lt lz n1 m1))):wloop E mask 0 c tr zm nx mx K:=by
  have key:∀(m:Nat) (tr:KTm) (zm:KZ) (nx mx:Nat),repR E n mask 0 c m tr zm nx mx (fun tr zm nx mx=>krun E n mask 0 c tr zm nx mx (litT e0 lt lz n1 m1))→wloop E mask 0 c tr zm nx mx K:=by
    intro m
    induction m with
    | zero =>
      intro tr zm nx mx h
      exact wloop.out (wrun.litM (wrun_of hE h) hk ⟨fun he=>by rw[he] at hn; revert hn; decide,hq⟩)
    | succ m ih =>
      intro tr zm nx mx h
      exact wloop.round ((wrun_of hE (show krun E n mask 0 c tr zm nx mx _ from h)).mono fun e tr1 zm1 nx1 mx1 q=>by
        obtain⟨q1,q2⟩:=chk_inv q
        exact⟨exB_s q1,ih _ _ _ _ q2⟩)
  exact key m _ _ _ _ h
end
theorem callR_of {E:KEnv}{fid lo:Nat}{l:List KV}{zm:KZ}{nx mx:Nat}{K:KV→KZ→Nat→Nat→Prop}{c:Code}{rs:List ResultVar}{lt:List (Nat×KV)}{run:RUN}(hf:fnB E.P fid=some (c,rs))
    (hb:∀ F:KTm→Prop,bindA (E.km fid) l 0 .e F=F (mkTr lt)) (h:run (E.km fid) lo c (mkTr lt) zm nx mx (retK E.P rs K)):callR E run lo fid l zm nx mx K:=by
  show os 174 _ (fnB E.P fid)
  rw[hf]
  show bindA (E.km fid) l 0 .e (fun tr=>run (E.km fid) lo c tr zm nx mx (retK E.P rs K))
  rw[hb]
  exact h
end
end Go.K
namespace Go.K
open Go.Ab Go.RowKit Go.Y
noncomputable section
theorem GRuns.inst {i j:Gl}(h:∀ g,i.G g=j.G g) {P:Program}{B:Nat}{c:Code}{τ τ':Nat→V}{μ μ':Mem}{nx N nx' mx':Nat}{e:Exit}(s:@GRuns i P B c τ μ nx N e τ' μ' nx' mx'):@GRuns j P B c τ μ nx N e τ' μ' nx' mx':=by
  intro ro n0 H C M a h1 h2 hz ht hs
  refine wpIn_mono (s ro n0 H C M a h1 h2 (GR.inst (fun g=>(h g).symm) hz) ht hs) ?_
  rintro e' a' w' ⟨rfl,C',M',rfl,⟨q1,q2,q3,q4⟩⟩
  exact⟨rfl,C',M',rfl,@GF.mk j ro n0 B H C M μ nx N τ' μ' nx' C' M' a' (GR.inst h q1) q2 q3 q4⟩
theorem wrun.inst {k k':KGl}(hg:∀ g,(@instGl k).G g=(@instGl k').G g) {E E':KEnv}(hP:E.P=E'.P) {mask lo:Nat}{c:Code}{tr:KTm}{zm:KZ}{nx mx:Nat}{K:K3}(h:@wrun k E mask lo c tr zm nx mx K):@wrun k' E' mask lo c tr zm nx mx K:=fun B N h1 h2 h3 h4=>by
  obtain⟨e,tr',zm',nx',mx',q,f,i,g⟩:=h B N h1 h2 h3 h4
  exact⟨e,tr',zm',nx',mx',q,f,i,hP▸GRuns.inst hg g⟩
variable [KGl]
section
variable {E:KEnv}{mask:Nat}{c:Code}{tr:KTm}{zm:KZ}{nx mx:Nat}{K:K3}
def trP (tr:KTm):List (Nat×KV)→Prop
  | []=>True
  | (t,v)::l=>tget tr t=v∧trP tr l
omit [KGl] in
theorem trP_s {tr:KTm}:∀ {l:List (Nat×KV)},trP tr l→∀ t v,(t,v)∈l→tget tr t=v
  | [],_,t,v,hm=>by cases hm
  | (d,w)::l,h,t,v,hm=>by
    rcases List.mem_cons.1 hm with q | q
    · cases q; exact h.1
    · exact trP_s h.2 t v q
def litP (e0:Exit) (lt:List (Nat×KV)) (n1 m1:Nat):K3:=fun e tr zm nx mx=>chk (exB e e0) 400 (chk (nd (Nat.ble nx n1) (Nat.ble mx m1)) 401 (trP tr lt))
theorem wrun.litP {e0:Exit}{lt:List (Nat×KV)}{n1 m1:Nat}(h:wrun E mask 0 c tr zm nx mx (litP e0 lt n1 m1)) (hk:keepL mask lt=true)
    (hq:K e0 (mkTr lt) (mkZm []) n1 m1):wrun E mask 0 c tr zm nx mx K:=fun B N h1 h2 h3 h4=>by
  obtain⟨e,tr1,zm1,nx1,mx1,q,f1,i1,g1⟩:=h B N h1 h2 h3 h4
  unfold Go.K.litP at q
  obtain⟨q1,q6⟩:=chk_inv q
  obtain⟨q2,q7⟩:=chk_inv q6
  obtain⟨q2,q3⟩:=nd_iff.1 q2
  obtain rfl:=exB_s q1
  have hn:=Nat.le_of_ble_eq_true q2
  have hm1:=Nat.le_of_ble_eq_true q3
  have ht:TImp (tv' (tget tr1)) (tv' (tget (mkTr lt))):=fun t x C hx=>by
    show R C (tv' (tget (mkTr lt)) t) _
    have hx':R C (tv' (tget tr1) t) (.val x):=hx
    unfold tv' at hx' ⊢
    rcases tget_mk (t:=t) (l:=lt) with q4 | ⟨v,q4,q5⟩
    · rw[q4]; trivial
    · rw[q5,←trP_s q7 t v q4]; exact hx'
  have hm:MImp (am zm1) (am (mkZm [])):=fun id b hb=>by
    unfold am at hb
    rcases kb_mk (id:=id) (l:=[]) with q4 | ⟨b',q4,q5⟩
    · rw[q4] at hb; cases hb
    · cases q4
  refine⟨e,mkTr lt,mkZm [],n1,m1,hq,⟨fun id hid=>?_,Nat.le_trans f1.nx hn,Nat.le_trans f1.mx hm1,fun _ h=>absurd h (Nat.not_lt_zero _)⟩,INV.mk hk,g1.imp ht hm hn hm1⟩
  cases hz:am (mkZm []) id with
  | none=>rfl
  | some b=>obtain⟨b',hb',_⟩:=hm id b hz; rw[f1.mb id (by omega)] at hb'; cases hb'
end
theorem kcsW {P:Program}{fid:FuncId}{s:KSpec}(hf:∃ fn,P.funcs[fid]?=some fn∧(fn.name == "runtime.NumGoroutine")=false∧fn.body.isNone=false)
    (h:∀ l K,s l K→∃ E:KEnv,KOk E∧E.P=P∧∃ w:KV,K w∧noRef w.v=true∧callR E (wrun E) 0 fid l .e 0 0 fun r _ _ _=>tK (kvb r w)):KCS P fid s:=by
  refine⟨hf,fun l K hs=>?_⟩
  obtain⟨E,hE,rfl,w,h1,h2,h4⟩:=h l K hs
  have hc:CSoundG E.P fid { pre:=fun l'=>@decide (l'=l.map KV.v) (Classical.propDecidable _),res:=fun _=>w.v,fresh:=true }:=by
    have hme:MB (am (.e:KZ)) 0:=by rw[am_e]; exact emptyB 0
    refine⟨hf,fun C l' vals hok hg hargs hpre=>?_⟩
    have hl:l'=l.map KV.v:=@of_decide_eq_true _ (Classical.propDecidable _) hpre
    subst hl
    obtain⟨_,r,zm',nx',mx',q1,q2,q3⟩:=callR_s (B:=C.w.heap.size) (wrun_ok _) hE h4 hme (Nat.le_refl 0)
    have hz:GR C.w.heap.size (nx' + mx') C.pur (fun _=>none) (am .e) 0 :=
      ⟨⟨Nat.le_refl _,hok,(fun _ _ h=>(by cases h)),(fun _ _ h=>(by cases h)),(fun _ _ _ _ _ h=>(by cases h)),(fun _ _ _ h=>(by cases h)),hg⟩,(fun id b hb=>by rw[am_e] at hb; cases hb),fun _ _ _ h=>h⟩
    refine (q3 (nx' + mx') C.pur (fun _=>none) vals (by omega) (by omega) hz hargs).mono ?_
    rintro e w' ⟨val,he,C',M',hw,hR,_,hc⟩
    subst hw
    obtain rfl:=kvb_s (tK_s q1)
    exact⟨hc.kp.below,val,he,R.noref _ h2 hR⟩
  refine⟨w,h1,fun B μ nx mx l0 hl0=>?_⟩
  exact con_call (B:=B) (μ:=μ) (nx:=nx) (mx:=mx) hE.gn hc rfl hl0 (by rw[unL_mkL']; exact @decide_eq_true _ (Classical.propDecidable _) rfl)
end
end Go.K
namespace Go.K
open Go.Ab Go.RowKit Go.Y
noncomputable section
variable [KGl]
omit [KGl] in
theorem allBel_bel:∀ {l:List KV},allBel l=true→(mkL (l.map KV.v)).bel 0
  | [],_=>trivial
  | x::l,h=>by
    obtain⟨q1,q2⟩:=nd_iff.1 (show nd (kbel 0 x) (allBel l)=true from h)
    exact⟨(kbel_s 0 _ q1).1,allBel_bel q2⟩
omit [KGl] in
theorem R.pur0 {C:Ctx}{v:V}{m:Ab.M}(hb:v.bel 0) (h:R C v m):R C.pur v m :=
  R.keep (C:=C.cut 0) (C':=C.pur) ⟨fun _ h=>absurd h.2 (Nat.not_lt_zero _),fun _ _=>rfl,fun _ _=>rfl,fun _ _ h=>h,fun _ _ _=>rfl⟩ _ _ (R.cut v hb h)
theorem gcallB {E:KEnv}(hE:KOk E) {run:RUN}(hr:∀ B,KRunOK E B run) {k fid:Nat}{args:List KV}{w:KV}(h:callR E run 0 fid args .e 0 0 fun r zm _ _=>tK (fzG true zm k r w)) (hb:allBel args=true) (B:Nat) (μ:Mem) (nx mx:Nat) :
    GCall E.P B fid (args.map KV.v) μ nx w.v μ nx mx:=by
  have hme:MB (am (.e:KZ)) 0:=by rw[am_e]; exact emptyB 0
  intro H C M vals hH hH2 hz hl
  have hp:R C.pur (mkL (args.map KV.v)) (.list vals):=R.pur0 (allBel_bel hb) hl
  obtain⟨_,r,zm',nx',mx',q1,q2,q3⟩:=callR_s (B:=C.w.heap.size) (hr _) hE h hme (Nat.le_refl 0)
  have h4:=tK_s q1
  have hz0:GR C.w.heap.size (nx' + mx') C.pur (fun _=>none) (am .e) 0 :=
    ⟨⟨Nat.le_refl _,hz.sr.okLt,(fun _ _ h=>(by cases h)),(fun _ _ h=>(by cases h)),(fun _ _ _ _ _ h=>(by cases h)),(fun _ _ _ h=>(by cases h)),fun g=>R.pure_of _ (hE.gn g) (hz.sr.gl g)⟩,(fun id b hb=>by rw[am_e] at hb; cases hb),fun _ _ _ h=>h⟩
  refine (q3 (nx' + mx') C.pur (fun _=>none) vals (by omega) (by omega) hz0 hp).mono ?_
  rintro e w' ⟨val,he,C',M',hw,hR,hz',hc⟩
  subst hw
  have hbel:Below C.w.heap.size C.w C'.w:=hc.kp.below
  let ok':Bool→Nat→Prop:=fun u b=>(C.ok u b∨(u=true∧C.ok false b))∨(C.w.heap.size≤b∧b < C'.w.heap.size)
  obtain⟨hs2,hk2⟩:=hz.sr.grown hbel ok' (fun u b h=>.inl (.inl h)) (fun u b h=>h)
  have h5:=(fzG_s (br:=true) hz'.sr hz'.sub k r w h4).1 _ hR
  refine⟨val,he,{ C with w:=C'.w,ok:=ok' },M,rfl,?_,⟨hs2,hz.sub,fun id h1 h2 h3=>hz.al id h1 h2 h3⟩,⟨hk2,fun id h=>.inl h,fun _ _ h=>⟨rfl,h⟩⟩⟩
  refine R.keep (C:=frC true C' C.w.heap.size) (C':={ C with w:=C'.w,ok:=ok' }) ⟨fun _ h=>h.elim,fun _ h=>h.elim,fun _ h=>h.elim,fun u b hb2=>?_,fun _ _ _=>rfl⟩ _ _ h5
  rcases hb2 with ⟨_,rfl,h6⟩ | h6
  · rcases hc.kp.okn _ _ h6 with h7 | h7
    · exact .inl h7
    · exact .inr ⟨h7,hz'.sr.okLt _ _ h6⟩
  · exact .inr h6
theorem kconB_s {E:KEnv}(hE:KOk E) {n k fid:Nat}{args:List KV}{w:KV}(h:callR E (krun E n) 0 fid args .e 0 0 fun r zm _ _=>tK (fzG true zm k r w)):KCSb E.P fid (kcon args w):=by
  have hme:MB (am (.e:KZ)) 0:=by rw[am_e]; exact emptyB 0
  refine⟨(callR_s (B:=0) (krun_ok hE n) hE h hme (Nat.le_refl 0)).1,fun l K hs=>?_⟩
  obtain⟨h1,h2⟩:=chk_inv hs
  obtain rfl:=kvbs_s h1
  exact⟨w,h2,fun hb B μ nx mx=>gcallB hE (fun _=>krun_ok hE n) h hb B μ nx mx⟩
theorem KCS.b {P:Program}{fid:FuncId}{s:KSpec}(h:KCS P fid s):KCSb P fid s:=⟨h.1,fun l K hs=>by
  obtain⟨v,h1,h2⟩:=h.2 l K hs
  exact⟨v,h1,fun hb B μ nx mx=>h2 B μ nx mx _ (lend_bel l hb B μ)⟩⟩
def allMb (P:Program) (fid:FuncId) (L:List (List KV×KV)):Prop:=@List.rec (List KV×KV) (fun _=>Prop) True (fun x _ ih=>KCSb P fid (kcon x.1 x.2)∧kvbs x.1 x.1=true∧ih) L
theorem sMemb_s {P:Program}{fid:FuncId}(hf:∃ fn,P.funcs[fid]?=some fn∧(fn.name == "runtime.NumGoroutine")=false∧fn.body.isNone=false):∀ {L:List (List KV×KV)},allMb P fid L→KCSb P fid (sMem L)
  | [],_=>⟨hf,fun l K h=>(show BadN 320 from h).elim⟩
  | x::L,hL=>by
    obtain⟨h1,h2,h3⟩:=(show KCSb P fid (kcon x.1 x.2)∧kvbs x.1 x.1=true∧allMb P fid L from hL)
    refine⟨hf,fun l K h=>?_⟩
    replace h:@Bool.rec (fun _=>Prop) (sMem L l K) (K x.2) (kvbsR l x.1):=h
    cases hk:kvbsR l x.1 with
    | true =>
      rw[hk] at h
      obtain rfl:=kvbsR_s hk
      exact h1.2 x.1 K (by show chk (kvbs x.1 x.1) 190 (K x.2); rw[h2]; exact h)
    | false=>rw[hk] at h; exact (sMemb_s hf h3).2 l K h
end
end Go.K
namespace Go.K
open Go.Ab Go.RowKit Go.Y
noncomputable section
variable [KGl]
omit [KGl] in
theorem iface_of {C:Ctx}{T:Nat}{x:V}{v:Value}(hT:T + 2147483649 < 8589934592) (h:R C (.fn (T + 2147483649) (.cons x .nl)) (.val v)):∃ z,v=.iface T z∧R C x (.val z):=by
  obtain⟨cs,h1,h2,_⟩:=h
  obtain⟨z,h3,h4⟩:=cs.v_if (ifLt T)
  have h5:v=cs.vw C.w:=h1
  rw[cs.vw_lt hT,h3,Nat.add_sub_cancel] at h5
  rw[h4] at h2
  obtain⟨y,ys,h6,h7,_⟩:=h2
  cases h6
  exact⟨z,h5,h7⟩
def StOk (P:Program) (w:World) (b d:Nat) (val:Value):Prop:=∀ w1,Below w.heap.size w w1→∃ w',(storeCells ⟨b,d,none⟩ val.cells.toList).run P w1=.ok () w'
theorem asOk_of {P:Program}{f T PT:Nat}(hfn:∃ fn,P.funcs[f]?=some fn∧(fn.name == "runtime.NumGoroutine")=false∧fn.body.isNone=false) (hT:T + 2147483649 < 8589934592) (hPT:PT + 2147483649 < 8589934592)
    (law:∀(C:Ctx) (val:Value) (b d:Nat),(∀ g,R C (Gl.G g) (.val (.pointer (some ⟨g,0,none⟩))))→(∀ s,tshape P T=some s→val.cells.size=s.size)→StOk P C.w b d val →
      Calls P f #[.iface T val,.iface PT (.pointer (some ⟨b,d,none⟩))] C.w fun e w'=>e=.returned (.bool true)∧∃ w1,Below C.w.heap.size C.w w1∧(storeCells ⟨b,d,none⟩ val.cells.toList).run P w1=.ok () w'):AsOk P f T PT:=by
  refine⟨hfn,fun B μ nx mx id s x y hm hs hfit hkn H C M vals hH hH2 hz hl=>?_⟩
  obtain⟨v0,vs,rfl,h0,v1,vs1,rfl,h1,h2⟩:=hl
  obtain rfl:vs1=[]:=h2
  obtain⟨val,rfl,hx⟩:=iface_of hT h0
  obtain⟨pv,rfl,hp⟩:=iface_of hPT h1
  obtain⟨hal,b,d,hb,hpath,hpv⟩:=hp
  obtain rfl:pv=.pointer (some ⟨b,d,none⟩):=hpv
  have hM:=hz.sub _ _ hm
  obtain⟨hsz,_,_⟩:=R.cells_of hx hfit hkn
  let op:Sem Next:=do storeCells ⟨b,d,none⟩ val.cells.toList; pure .skip
  have key:∀ w1,Below C.w.heap.size C.w w1→∃ C1:Ctx,C1.w=w1∧Kp B C C1∧(∀ i,C1.al i→C.al i)∧Does P op w1 (Post B C1 (upd M id (some ⟨.box T,s,x⟩)) (fun i=>nx≤i∧i < nx + 0) (.tup .nl)):=by
    intro w1 hw1
    obtain⟨hs1,hk1⟩:=hz.sr.grown hw1 C.ok (fun _ _ h=>h) (fun _ _ h=>.inl (.inl h))
    refine⟨{ C with w:=w1,ok:=C.ok },rfl,hk1,fun _ h=>h,?_⟩
    exact does_store (C:={ C with w:=w1,ok:=C.ok }) (n:=nx) (p:=[]) hs1 hM rfl hb hpath (R.keep hk1.toKeep _ _ hx) hfit hkn fun w' hw'=>by
      show (do storeCells ⟨b,d,none⟩ val.cells.toList; pure Next.skip:Sem Next).run P w1=_
      simp [hw']
  have hst:StOk P C.w b d val:=by
    intro w1 hw1
    obtain⟨C1,rfl,_,_,hd⟩:=key w1 hw1
    unfold Does at hd
    cases hr:(storeCells ⟨b,d,none⟩ val.cells.toList).run P C1.w with
    | ok u w'=>exact⟨w',rfl⟩
    | _=>simp [op,hr,Result.andThen] at hd
  refine (law C val b d hz.sr.gl (fun s' hs'=>by rw[hs] at hs'; cases hs'; exact hsz) hst).mono ?_
  rintro e w' ⟨rfl,w1,hw1,hrun⟩
  obtain⟨C1,rfl,hk1,hal1,hd⟩:=key w1 hw1
  have hop:op.run P C1.w=.ok .skip w':=by simp [op,hrun]
  unfold Does at hd
  rw[hop] at hd
  obtain⟨C2,rfl,_,hk2,hs2,hal2⟩:=hd
  have hal3:∀ i,C2.al i→C.al i:=fun i hi=>by
    rcases hal2 i hi with h | h
    · exact hal1 i h
    · omega
  refine⟨.bool true,rfl,C2,_,rfl,rfl,⟨hs2,fun i bk hi=>?_,fun i q1 q2 q3=>hz.al i q1 q2 (hal3 i q3)⟩,⟨hk1.trans hk2,fun i hi=>.inl (hal3 i hi),fun i hi hn=>?_⟩⟩
  · by_cases h:i=id
    · subst h; rw[upd_same] at hi ⊢; exact hi
    · rw[upd_other _ _ h] at hi ⊢; exact hz.sub i bk hi
  · have h:i≠id:=fun h=>by subst h; rw[hm] at hn; cases hn
    exact⟨upd_other _ _ h,by rw[upd_other _ _ h]; exact hn⟩
end
end Go.K
namespace Go.K
open Go.Ab Go.RowKit Go.Y
noncomputable section
variable [KGl]
def sIs (ft nn m:Nat):KSpec:=fun l K=>l2 (fun x y=>onFn (fun f c=>chk (Nat.beq f ft) 391 (onCons (fun p r=>onNl (onCons (fun e q=>onInt (fun _ _=>onCons (fun z q2=>onNl (onFn (fun n _=>onFn (fun m' _=>chk (Nat.beq m' m) 392 (@Bool.rec (fun _=>Prop) (chk (Nat.beq n m) 393 (K (.bool true))) (K (.bool false)) (Nat.beq n nn))) (BadN 394) y) (BadN 394) z) (BadN 394) q2) (BadN 394) q) (BadN 394) e) (BadN 394) p) (BadN 394) r) (BadN 394) c)) (BadN 394) x) l
omit [KGl] in
theorem nilI_of {C:Ctx}{c:V}{m:Ab.M}{x:Value}(h:R C (.fn 2147483648 c) m) (hx:m.leaf x):x=.nilIface:=by
  obtain⟨cs,h1,_,_⟩:=h
  have h2:cs.vw C.w=.nilIface:=by
    rw[FC.vw_lt (by decide)]
    unfold FC.v
    rw[if_neg (by decide)]
    split
    · rw[if_pos rfl]
    · rfl
  rw[h2] at h1
  cases m with
  | cel s g off =>
    obtain⟨_,h3⟩:=h1
    obtain⟨_,h4⟩:=hx
    exact Option.some.inj (h4.symm.trans h3)
  | val v=>exact (show v=x from hx).symm.trans h1
  | list l=>exact h1.elim
omit [KGl] in
theorem glI_of {C:Ctx}{c:V}{f:Nat}{m:Ab.M}(h1:8589934592≤f) (h2:f < 17179869184) (h:R C (.fn f c) m):∃ x a,m.leaf x∧C.w.cell? ⟨Go.Ab.gV f,0,none⟩=some x∧x=.iface (Go.Ab.gY f) (.pointer (some a)):=by
  obtain⟨cs,h3,_,h5⟩:=h
  obtain⟨q1,a,q2⟩:=FC.vw_gl h1 h2 h5 cs
  exact⟨cs.vw C.w,a,h3,q1,q2⟩
omit [KGl] in
theorem leaf_inj {m:Ab.M}{x y:Value}(h:m.leaf x) (k:m.leaf y):x=y:=by
  cases m with
  | cel s g off=>exact Option.some.inj (h.2.symm.trans k.2)
  | val v=>exact (show v=x from h).symm.trans k
  | list l=>exact h.elim
omit [KGl] in
theorem two_of {C:Ctx}{k:IntKind}{i:Int}{n:Nat}{c:V}{z:Value}(h:R C (.cons (.int k i) (.cons (.fn n c) .nl)) (.val z)):∃ x:Value,z=.agg #[.int k i,x]∧∃ m:Ab.M,m.leaf x∧R C (.fn n c) m:=by
  obtain⟨ds,a,b,rfl,h1,h2,h3⟩:=h
  obtain⟨a2,b2,rfl,h4,h5⟩:=h3
  obtain⟨rfl,h6⟩:=(show a=.sc∧ds[0]?=some (.int k i) from h2)
  obtain rfl:b2=.nl:=h5
  have h4':=h4
  obtain⟨cs,h70,_,_⟩:=h4'
  obtain⟨rfl,h7⟩:=(show a2=.sc∧ds[1]?=some (cs.vw C.w) from h70)
  have hs:ds.size=2:=h1
  refine⟨cs.vw C.w,?_,_,(show (Ab.M.cel .sc (fun i=>ds[i]?) 1).leaf _ from ⟨rfl,h7⟩),h4⟩
  congr 1
  apply Array.ext
  · simpa using hs
  · intro j hj1 hj2
    have hj:j=0∨j=1:=by omega
    have h8:=Array.getElem?_eq_getElem hj1
    rcases hj with rfl | rfl
    · rw[h8] at h6; simpa using h6
    · rw[h8] at h7; simpa using h7
theorem is_con {P:Program}(hgn:∀ g,noId (Gl.G g)=true) {f:Nat}{b:Bool}{l:List KV}(hfn:∃ fn,P.funcs[f]?=some fn∧(fn.name == "runtime.NumGoroutine")=false∧fn.body.isNone=false)
    (law:∀(C:Ctx) (vals:List Value),R C (mkL (l.map KV.v)) (.list vals)→Calls P f vals.toArray C.w fun ev w'=>ev=.returned (.bool b)∧Below C.w.heap.size C.w w') {B:Nat}{μ:Mem}{nx mx:Nat}{l0:List V}(hl:Lend B μ l0 (l.map KV.v)):GCall P B f l0 μ nx (KV.bool b).v μ nx mx:=by
  have hc:CSoundG P f { pre:=fun l'=>@decide (l'=l.map KV.v) (Classical.propDecidable _),res:=fun _=>.bool b,fresh:=true }:=by
    refine⟨hfn,fun C args vals hok hg hargs hpre=>?_⟩
    have hl':args=l.map KV.v:=@of_decide_eq_true _ (Classical.propDecidable _) hpre
    subst hl'
    refine (law C.pur vals hargs).mono ?_
    rintro e w' ⟨rfl,hb⟩
    exact⟨hb,_,rfl,rfl⟩
  exact con_call (B:=B) (μ:=μ) (nx:=nx) (mx:=mx) hgn hc rfl hl (by rw[unL_mkL']; exact @decide_eq_true _ (Classical.propDecidable _) rfl)
theorem isOk_of {P:Program}(hgn:∀ g,noId (Gl.G g)=true) {f T Y m:Nat}(hfn:∃ fn,P.funcs[f]?=some fn∧(fn.name == "runtime.NumGoroutine")=false∧fn.body.isNone=false) (hT:T + 2147483649 < 8589934592) (h1:8589934592≤m) (h2:m < 17179869184) (hY:Go.Ab.gY m=Y)
    (lawN:∀ e a w,Calls P f #[.iface T (.agg #[e,.nilIface]),.iface Y (.pointer (some a))] w fun ev w'=>ev=.returned (.bool false)∧Below w.heap.size w w')
    (lawH:∀ e a w,Calls P f #[.iface T (.agg #[e,.iface Y (.pointer (some a))]),.iface Y (.pointer (some a))] w fun ev w'=>ev=.returned (.bool true)∧Below w.heap.size w w'):KCS P f (sIs (T + 2147483649) 2147483648 m):=by
  subst hY
  have hft:∃ ft,ft=T + 2147483649:=⟨_,rfl⟩
  obtain⟨ft,hft⟩:=hft
  have hnn:∃ nn,nn=2147483648:=⟨_,rfl⟩
  obtain⟨nn,hnn⟩:=hnn
  rw[←hft,←hnn]
  refine⟨hfn,fun l K hs=>?_⟩
  obtain⟨x,y,rfl,hs1⟩:=l2_inv hs
  rcases onFn_inv hs1 with ⟨fx,c,rfl,hs2⟩ | ⟨_,hs2⟩
  rotate_left
  · exact hs2.elim
  obtain⟨hf,hs3⟩:=chk_inv hs2
  obtain rfl:=Nat.eq_of_beq_eq_true hf
  rcases onCons_inv hs3 with ⟨p,r,rfl,hs4⟩ | ⟨_,hs4⟩
  rotate_left
  · exact hs4.elim
  rcases onNl_inv hs4 with ⟨rfl,hs5⟩ | ⟨_,hs5⟩
  rotate_left
  · exact hs5.elim
  rcases onCons_inv hs5 with ⟨e,q,rfl,hs6⟩ | ⟨_,hs6⟩
  rotate_left
  · exact hs6.elim
  rcases onInt_inv hs6 with ⟨k,i,rfl,hs7⟩ | ⟨_,hs7⟩
  rotate_left
  · exact hs7.elim
  rcases onCons_inv hs7 with ⟨z,q2,rfl,hs8⟩ | ⟨_,hs8⟩
  rotate_left
  · exact hs8.elim
  rcases onNl_inv hs8 with ⟨rfl,hs9⟩ | ⟨_,hs9⟩
  rotate_left
  · exact hs9.elim
  rcases onFn_inv hs9 with ⟨n,c1,rfl,hs10⟩ | ⟨_,hs10⟩
  rotate_left
  · exact hs10.elim
  rcases onFn_inv hs10 with ⟨m',c2,rfl,hs11⟩ | ⟨_,hs11⟩
  rotate_left
  · exact hs11.elim
  obtain⟨hm,hs12⟩:=chk_inv hs11
  obtain rfl:m'=m:=Nat.eq_of_beq_eq_true hm
  have args:∀(C:Ctx) (vals:List Value),R C (mkL (([.fn fx (.cons (.cons (.int k i) (.cons (.fn n c1) .nl)) .nl),.fn m' c2]:List KV).map KV.v)) (.list vals)→∃ x v1 a,vals=[.iface T (.agg #[.int k i,x]),v1]∧v1=.iface (Go.Ab.gY m') (.pointer (some a))∧C.w.cell? ⟨Go.Ab.gV m',0,none⟩=some v1∧∃ M:Ab.M,M.leaf x∧R C (.fn n c1.v) M:=by
    rintro C vals ⟨v0,vs,rfl,g0,v1,vs1,rfl,g1,g2⟩
    obtain rfl:vs1=[]:=g2
    rw[hft] at g0
    obtain⟨z,rfl,g3⟩:=iface_of hT g0
    obtain⟨x,rfl,M,g4,g5⟩:=two_of g3
    obtain⟨v,a,g6,g7,g8⟩:=glI_of h1 h2 g1
    obtain rfl:v1=v:=g6
    exact⟨x,v1,a,rfl,g8,g7,M,g4,g5⟩
  by_cases hn:n=nn
  · subst hn
    have hs:K (.bool false):=by
      have hb:Nat.beq n n=true:=Nat.beq_refl n
      rw[hb] at hs12
      exact hs12
    refine⟨_,hs,fun B μ nx mx l0 hl=>is_con hgn hfn (fun C vals hr=>?_) hl⟩
    obtain⟨x,v1,a,rfl,rfl,_,M,g1,g2⟩:=args C vals hr
    rw[hnn] at g2
    obtain rfl:=nilI_of g2 g1
    exact lawN _ _ _
  · have hb:Nat.beq n nn=false:=by
      cases hq:Nat.beq n nn with
      | false=>rfl
      | true=>exact absurd (Nat.eq_of_beq_eq_true hq) hn
    have hs:@Bool.rec (fun _=>Prop) (chk (Nat.beq n m') 393 (K (.bool true))) (K (.bool false)) (Nat.beq n nn):=hs12
    rw[hb] at hs
    obtain⟨hq,hsk⟩:=chk_inv hs
    obtain rfl:n=m':=Nat.eq_of_beq_eq_true hq
    refine⟨_,hsk,fun B μ nx mx l0 hl=>is_con hgn hfn (fun C vals hr=>?_) hl⟩
    obtain⟨x,v1,a,rfl,h3,h4,M,g1,g2⟩:=args C vals hr
    obtain⟨x2,a2,g3,g4,_⟩:=glI_of h1 h2 g2
    obtain rfl:x=x2:=leaf_inj g1 g3
    obtain rfl:x=v1:=Option.some.inj (g4.symm.trans h4)
    rw[h3]
    exact lawH _ _ _
end
end Go.K
namespace Go.K
open Go.Ab Go.RowKit Go.Y
noncomputable section
def renC (C:Ctx) (ρ:Nat→Nat) (n H:Nat):Ctx:={ C with
  al:=fun id=>(id < n∧C.al (ρ id))∨(H≤id∧C.al (id - H))
  sv:=fun id=>if id < n then C.sv (ρ id) else C.sv (id - H)
  shp:=fun id=>if id < n then C.shp (ρ id) else C.shp (id - H) }
def renF (C:Ctx) (μ:Mem) (F:List Nat) (ρ:Nat→Nat) (n H:Nat):Ctx:={ renC C ρ n H with ok:=fun u b=>C.ok u b∨(u=true∧∃ id,id∈F∧∃ blk,μ id=some blk∧blk.alive=true∧blk? (C.sv id)=some b) }
theorem renF_keep {C:Ctx}{μ:Mem}{F:List Nat}{ρ:Nat→Nat}{n H:Nat}:Keep C.pur (renF C μ F ρ n H).pur:=⟨fun _ h=>h.elim,fun _ h=>h.elim,fun _ h=>h.elim,fun _ _ h=>.inl h,fun _ _ _=>rfl⟩
variable [KGl]
structure JS (B H N:Nat) (C0:Ctx) (τ:Nat→V) (μ:Mem) (nx:Nat) (a:Act) (C:Ctx) (M:Mem):Prop where
  gr:GR B H C M μ nx
  gt:GT C τ a N
  sd:Side none 0 H C M μ nx a.defers
  kp:Kp B C0 C
section
variable [Gl]
def RnV (μ:Mem) (F:List Nat) (ρ:Nat→Nat) (n:Nat) (v w:V):Prop:=∀ B H C M,n≤H→SR B C M→Sub μ M→∀ x,R C v (.val x)→R (renF C μ F ρ n H) w (.val x)
def RnB (μ:Mem) (F:List Nat) (ρ:Nat→Nat) (n:Nat) (v w:V):Prop:=∀ B H C M,n≤H→SR B C M→Sub μ M→∀ m,R C v m→R (renF C μ F ρ n H) w m
structure Rn (F:List Nat) (ρ:Nat→Nat) (n:Nat) (τ:Nat→V) (μ:Mem) (τ2:Nat→V) (μ2:Mem):Prop where
  tm:∀ t,RnV μ F ρ n (τ t) (τ2 t)
  mm:∀ id c,μ2 id=some c→id < n∧lpK c.k=false∧ρ id ∉ F∧∃ b,μ (ρ id)=some b∧b.k=c.k∧b.sh=c.sh∧RnB μ F ρ n b.v c.v
  inj:∀ i j c d,μ2 i=some c→μ2 j=some d→ρ i=ρ j→i=j
end
theorem JS.ren (hgn:∀ g,noId (Gl.G g)=true) {B H N:Nat}{C0:Ctx}(h0:∀ id,¬ C0.al id) {τ τ2:Nat→V}{μ μ2:Mem}{nx n:Nat}{a:Act}{C:Ctx}{M:Mem}{F:List Nat}{ρ:Nat→Nat}(h:JS B H N C0 τ μ nx a C M) (hr:Rn F ρ n τ μ τ2 μ2) (hn:n≤H) :
    ∃ D M2,D.w=C.w∧JS B H N C0 τ2 μ2 n a D M2:=by
  let far:Nat→Option Blk:=fun j=>match μ j,M j with
    | none,some ⟨.lp k ps x y,sh,.nilf⟩=>some ⟨.lp k ps x y,sh,.nilf⟩
    | _,_=>none
  have hfar:∀ j c,far j=some c→μ j=none∧M j=some c∧∃ k ps x y sh,c=⟨.lp k ps x y,sh,.nilf⟩:=by
    intro j c hc
    simp only[far] at hc
    split at hc
    · rename_i k ps x y sh h1 h2
      cases hc
      exact⟨h1,h2,_,_,_,_,_,rfl⟩
    · cases hc
  let M2:Mem:=fun id=>if id < n then μ2 id else if H≤id then far (id - H) else none
  have hM2:∀ id c,M2 id=some c→(id < n∧μ2 id=some c)∨(n≤id∧H≤id∧far (id - H)=some c):=by
    intro id c hc
    simp only[M2] at hc
    split at hc
    · rename_i h1; exact .inl ⟨h1,hc⟩
    · rename_i h1
      split at hc
      · rename_i h2; exact .inr ⟨by omega,h2,hc⟩
      · cases hc
  have svl:∀ {id:Nat},id < n→(renF C μ F ρ n H).sv id=C.sv (ρ id):=fun h=>if_pos h
  have shl:∀ {id:Nat},id < n→(renF C μ F ρ n H).shp id=C.shp (ρ id):=fun h=>if_pos h
  have svh:∀ {id:Nat},n≤id→(renF C μ F ρ n H).sv id=C.sv (id - H):=fun h=>if_neg (Nat.not_lt.2 h)
  have low:∀ {id c},μ2 id=some c→∃ b,M (ρ id)=some b∧b.k=c.k∧b.sh=c.sh∧RnB μ F ρ n b.v c.v:=fun {id c} hc=>by
    obtain⟨_,_,_,b,h1,h2⟩:=hr.mm id c hc
    exact⟨b,h.gr.sub _ _ h1,h2⟩
  have live:∀ {b c:Blk},b.k=c.k→c.live=true→b.live=true:=fun e h=>by unfold Blk.live at h ⊢; rw[e]; exact h
  have frz:∀ {id blk b},id∈F→μ id=some blk→blk.alive=true→blk? (C.sv id)=some b→M id=some blk∧B≤b∧b < C.w.heap.size:=fun {id blk b} h1 h2 h3 h4 =>
    ⟨h.gr.sub _ _ h2,h.gr.sr.lt (h.gr.sub _ _ h2) (Blk.lv h3) (blkL_of h4)⟩
  refine⟨renF C μ F ρ n H,M2,rfl,⟨⟨h.gr.sr.base,?_,?_,?_,?_,?_,?_⟩,?_,?_⟩,⟨fun t=>hr.tm t B H C M hn h.gr.sr h.gr.sub _ (h.gt.tv t),h.gt.size⟩,⟨?_,h.sd.nd,Nat.zero_le _,fun l hl=>by cases hl⟩,?_⟩
  · rintro u b (h1 | ⟨_,id,h1,blk,h2,h3,h4⟩)
    · exact h.gr.sr.okLt u b h1
    · exact (frz h1 h2 h3 h4).2.2
  · intro id c hc
    rcases hM2 id c hc with ⟨h1,h2⟩ | ⟨h1,h2,h3⟩
    · obtain⟨b,h4,_⟩:=low h2
      exact .inl ⟨h1,h.gr.sr.al _ _ h4⟩
    · exact .inr ⟨h2,h.gr.sr.al _ _ (hfar _ _ h3).2.1⟩
  · intro id c hc
    rcases hM2 id c hc with ⟨h1,h2⟩ | ⟨h1,h2,h3⟩
    · obtain⟨b,h4,e1,e2,hv⟩:=low h2
      obtain⟨_,h6,_⟩:=hr.mm id c h2
      have hbr:=h.gr.sr.mem _ _ h4
      have hv':∀ m,R C b.v m→R (renF C μ F ρ n H) c.v m:=hv B H C M hn h.gr.sr h.gr.sub
      obtain⟨k,sh,v⟩:=c
      obtain⟨bk,bsh,bv⟩:=b
      obtain rfl:bk=k:=e1
      obtain rfl:bsh=sh:=e2
      cases bk with
      | box t =>
        obtain⟨g,cur,e,h1',h2',h3',h4',h5',h6',h7'⟩:=hbr
        exact⟨g,cur,e,by rw[svl h1]; exact h1',h2',h3',by rw[shl h1]; exact h4',h5',hv' _ h6',h7'⟩
      | row e =>
        obtain⟨k,s,cells,h1',h2',h3',h4'⟩:=hbr
        exact⟨k,s,cells,by rw[shl h1]; exact h1',h2',by rw[svl h1]; exact h3',hv' _ h4'⟩
      | dead=>trivial
      | lp=>cases h6
      | mp =>
        obtain⟨g,es,clk,h1',h2',h3',h4'⟩:=hbr
        exact⟨g,es,clk,by rw[svl h1]; exact h1',h2',h3',hv' _ h4'⟩
    · obtain⟨_,h4,k,ps,x,y,sh,rfl⟩:=hfar _ _ h3
      have h5:=h.gr.sr.mem _ _ h4
      rcases (show LoopR B C (id - H) k ps x y .nilf from h5) with ⟨_,_,_,_,_,_,_,_,_,e,_⟩ | ⟨_,D',e1,e2,e3⟩
      · cases e
      · exact .inr ⟨rfl,D',by rw[svh h1]; exact e1,e2,e3⟩
  · intro i j c d b hc hcl hd hdl hb1 hb2
    rcases hM2 i c hc with ⟨h1,h2⟩ | ⟨h1,h2,h3⟩
    · rw[svl h1] at hb1
      obtain⟨c',h4,h5,_⟩:=low h2
      rcases hM2 j d hd with ⟨g1,g2⟩ | ⟨g1,g2,g3⟩
      · rw[svl g1] at hb2
        obtain⟨d',g4,g5,_⟩:=low g2
        exact hr.inj i j c d h2 g2 (h.gr.sr.sep _ _ c' d' b h4 (live h5 hcl) g4 (live g5 hdl) hb1 hb2)
      · rw[svh g1] at hb2
        obtain⟨q1,q2,_⟩:=hfar _ _ g3
        have:=h.gr.sr.sep _ _ c' d b h4 (live h5 hcl) q2 hdl hb1 hb2
        obtain⟨_,_,_,b',q3,_⟩:=hr.mm i c h2
        rw[this,q1] at q3; cases q3
    · rw[svh h1] at hb1
      obtain⟨q1,q2,_⟩:=hfar _ _ h3
      rcases hM2 j d hd with ⟨g1,g2⟩ | ⟨g1,g2,g3⟩
      · rw[svl g1] at hb2
        obtain⟨d',g4,g5,_⟩:=low g2
        have:=h.gr.sr.sep _ _ c d' b q2 hcl g4 (live g5 hdl) hb1 hb2
        obtain⟨_,_,_,b',q3,_⟩:=hr.mm j d g2
        rw[←this,q1] at q3; cases q3
      · rw[svh g1] at hb2
        obtain⟨q3,q4,_⟩:=hfar _ _ g3
        have:=h.gr.sr.sep _ _ c d b q2 hcl q4 hdl hb1 hb2
        omega
  · rintro id c b hc hcl hb u (hok | ⟨_,fid,f1,blk,f2,f3,f4⟩)
    · rcases hM2 id c hc with ⟨h1,h2⟩ | ⟨h1,h2,h3⟩
      · rw[svl h1] at hb
        obtain⟨c',h4,h5,_⟩:=low h2
        exact h.gr.sr.own _ c' b h4 (live h5 hcl) hb u hok
      · rw[svh h1] at hb
        exact h.gr.sr.own _ c b (hfar _ _ h3).2.1 hcl hb u hok
    · obtain⟨f5,_⟩:=frz f1 f2 f3 f4
      rcases hM2 id c hc with ⟨h1,h2⟩ | ⟨h1,h2,h3⟩
      · rw[svl h1] at hb
        obtain⟨c',h4,h5,_⟩:=low h2
        have:=h.gr.sr.sep _ _ c' blk b h4 (live h5 hcl) f5 (Blk.lv f3) hb (blkL_of f4)
        exact (hr.mm id c h2).2.2.1 (by rw[this]; exact f1)
      · rw[svh h1] at hb
        obtain⟨q1,q2,_⟩:=hfar _ _ h3
        have:=h.gr.sr.sep _ _ c blk b q2 hcl f5 (Blk.lv f3) hb (blkL_of f4)
        rw[this,f2] at q1; cases q1
  · exact fun g=>R.keep (C:=C.pur) (C':=renF C μ F ρ n H) ⟨fun _ h=>h.elim,fun _ h=>h.elim,fun _ h=>h.elim,fun _ _ h=>.inl h,fun _ _ _=>rfl⟩ _ _ (R.pure_of _ (hgn g) (h.gr.sr.gl g))
  · intro id c hc
    show (if id < n then μ2 id else if H≤id then far (id - H) else none)=some c
    rw[if_pos (hr.mm id c hc).1]; exact hc
  · rintro id h1 h2 (⟨h3,_⟩ | ⟨h3,_⟩)
    · omega
    · omega
  · intro d hd
    obtain⟨id,D,k,ps,x,y,sh,g1,g2,g3,g4,g5⟩:=h.sd.df d hd
    refine⟨H + id,D,k,ps,x,y,sh,⟨by omega,.inr ⟨rfl,by omega⟩⟩,?_,?_,?_,g5⟩
    · cases hz:μ2 (H + id) with
      | none=>rfl
      | some c=>have:=(hr.mm _ c hz).1; omega
    · show (if H + id < n then μ2 (H + id) else if H≤H + id then far (H + id - H) else none)=_
      rw[if_neg (by omega),if_pos (by omega),Nat.add_sub_cancel_left]
      simp only[far,g2,g3]
    · rw[svh (by omega),Nat.add_sub_cancel_left]; exact g4
  · refine⟨⟨fun id hid=>absurd hid (h0 id),fun id hid=>absurd hid (h0 id),fun id hid=>absurd hid (h0 id),fun u b hb=>.inl (h.kp.ok u b hb),h.kp.heap⟩,h.kp.below,?_⟩
    rintro u b (h1 | ⟨_,id,h1,blk,h2,h3,h4⟩)
    · exact h.kp.okn u b h1
    · exact .inr (frz h1 h2 h3 h4).2.1
def JRuns (P:Program) (B N:Nat) (c:Code) (τ:Nat→V) (μ:Mem) (nx:Nat) (e:Exit) (τ':Nat→V) (μ':Mem) (nx' hb:Nat):Prop :=
  ∀ H C0 C M a,hb≤H→(∀ id,¬ C0.al id)→JS B H N C0 τ μ nx a C M→c.wpIn (FR none) 0 P (fun e' a' w'=>e'=e∧∃ C' M',C'.w=w'∧JS B H N C0 τ' μ' nx' a' C' M') a C.w
section
variable {P:Program}{B N:Nat}{τ τ':Nat→V}{μ μ':Mem}{nx nx' hb:Nat}{e:Exit}
theorem GRuns.j {c:Code}{mx:Nat}(h:GRuns P B c τ μ nx N e τ' μ' nx' mx):JRuns P B N c τ μ nx e τ' μ' nx' (nx' + mx):=by
  intro H C0 C M a hH h0 hj
  refine wpIn_mono (h none 0 H C M a (by omega) (by omega) hj.gr hj.gt hj.sd) ?_
  rintro e' a' w' ⟨rfl,C',M',rfl,hf⟩
  exact⟨rfl,C',M',rfl,hf.yr,hf.yt,hf.sd,hj.kp.trans hf.yc.kp⟩
theorem JRuns.up {c:Code}{hb':Nat}(h:JRuns P B N c τ μ nx e τ' μ' nx' hb) (hl:hb≤hb'):JRuns P B N c τ μ nx e τ' μ' nx' hb':=fun H C0 C M a hH h0 hj=>h H C0 C M a (by omega) h0 hj
theorem JRuns.ren (hgn:∀ g,noId (Gl.G g)=true) {c:Code}{F:List Nat}{ρ:Nat→Nat}{τ2:Nat→V}{μ2:Mem}{n:Nat}(h:JRuns P B N c τ μ nx e τ' μ' nx' hb) (hr:Rn F ρ n τ' μ' τ2 μ2):JRuns P B N c τ μ nx e τ2 μ2 n (hb + n):=by
  intro H C0 C M a hH h0 hj
  refine wpIn_mono (h H C0 C M a (by omega) h0 hj) ?_
  rintro e' a' w' ⟨rfl,C',M',rfl,hj'⟩
  obtain⟨D,M2,h1,h2⟩:=hj'.ren hgn h0 hr (by omega)
  exact⟨rfl,D,M2,h1,h2⟩
theorem JRuns.pre (hgn:∀ g,noId (Gl.G g)=true) {c:Code}{F:List Nat}{ρ:Nat→Nat}{τ2:Nat→V}{μ2:Mem}{n:Nat}(hr:Rn F ρ n τ μ τ2 μ2) (h:JRuns P B N c τ2 μ2 n e τ' μ' nx' hb):JRuns P B N c τ μ nx e τ' μ' nx' (hb + n):=by
  intro H C0 C M a hH h0 hj
  obtain⟨D,M2,h1,h2⟩:=hj.ren hgn h0 hr (by omega)
  rw[←h1]
  exact h H C0 D M2 a (by omega) h0 h2
theorem JRuns.seq {x y:Code}{τ1:Nat→V}{μ1:Mem}{nx1 hb1:Nat}(h:JRuns P B N x τ μ nx .normal τ1 μ1 nx1 hb1) (k:JRuns P B N y τ1 μ1 nx1 e τ' μ' nx' hb):JRuns P B N (.seq x y) τ μ nx e τ' μ' nx' (hb1 + hb):=by
  intro H C0 C M a hH h0 hj
  refine wpIn_seq (wpIn_mono (h H C0 C M a (by omega) h0 hj) ?_)
  rintro e' a' w' ⟨rfl,C',M',rfl,hj'⟩
  refine wpIn_mono (k H C0 C' M' a' (by omega) h0 hj') ?_
  rintro e' a'' w' ⟨rfl,hf⟩
  exact⟨rfl,hf⟩
theorem JRuns.seqX {x y:Code}(he:e≠.normal) (h:JRuns P B N x τ μ nx e τ' μ' nx' hb):JRuns P B N (.seq x y) τ μ nx e τ' μ' nx' hb:=by
  intro H C0 C M a hH h0 hj
  refine wpIn_seq (wpIn_mono (h H C0 C M a hH h0 hj) ?_)
  rintro e' a' w' ⟨rfl,hf⟩
  cases e' with
  | normal=>exact absurd rfl he
  | _=>exact⟨rfl,hf⟩
theorem JRuns.blockE {id:Nat}{x:Code}(h:JRuns P B N x τ μ nx (.exit id) τ' μ' nx' hb):JRuns P B N (.block id x) τ μ nx .normal τ' μ' nx' hb:=by
  intro H C0 C M a hH h0 hj
  refine wpIn_block (wpIn_mono (h H C0 C M a hH h0 hj) ?_)
  rintro e' a' w' ⟨rfl,hf⟩
  simp only[Exit.inBlock,if_true]
  exact⟨trivial,hf⟩
theorem JRuns.blockX {id:Nat}{x:Code}(he:e≠.exit id) (h:JRuns P B N x τ μ nx e τ' μ' nx' hb):JRuns P B N (.block id x) τ μ nx e τ' μ' nx' hb:=by
  intro H C0 C M a hH h0 hj
  refine wpIn_block (wpIn_mono (h H C0 C M a hH h0 hj) ?_)
  rintro e' a' w' ⟨rfl,hf⟩
  cases e' with
  | exit i =>
    have hi:¬ i=id:=fun e1=>he (by rw[e1])
    simp only[Exit.inBlock,hi,if_false]
    exact⟨trivial,hf⟩
  | _=>exact⟨rfl,hf⟩
inductive JLoop (P:Program) (B N:Nat) (c:Code) (e:Exit) (τ':Nat→V) (μ':Mem) (nx' hb:Nat):Nat→(Nat→V)→Mem→Nat→Prop where
  | out {k:Nat}{τ:Nat→V}{μ:Mem}{nx:Nat}(h:JRuns P B N c τ μ nx e τ' μ' nx' hb) (he:e≠.normal):JLoop P B N c e τ' μ' nx' hb (k + 1) τ μ nx
  | round {k:Nat}{τ τ1:Nat→V}{μ μ1:Mem}{nx nx1:Nat}(h:JRuns P B N c τ μ nx .normal τ1 μ1 nx1 hb) (h2:JLoop P B N c e τ' μ' nx' hb k τ1 μ1 nx1):JLoop P B N c e τ' μ' nx' hb (k + 1) τ μ nx
theorem JLoop.up {c:Code}{k hb':Nat}(hl:hb≤hb') (h:JLoop P B N c e τ' μ' nx' hb k τ μ nx):JLoop P B N c e τ' μ' nx' hb' k τ μ nx:=by
  induction h with
  | out h he=>exact .out (h.up hl) he
  | round h _ ih=>exact .round (h.up hl) ih
theorem JLoop.runs {c:Code}{k:Nat}(h:JLoop P B N c e τ' μ' nx' hb k τ μ nx):JRuns P B N (.loop c) τ μ nx e τ' μ' nx' hb:=by
  intro H C0 C M a hH h0 hj
  refine wpIn_ghost (fun n a w=>∃ C' M' τ1 μ1 nx1,C'.w=w∧JS B H N C0 τ1 μ1 nx1 a C' M'∧JLoop P B N c e τ' μ' nx' hb n τ1 μ1 nx1) k ⟨C,M,τ,μ,nx,rfl,hj,h⟩ ?_
  rintro n a w ⟨C1,M1,τ1,μ1,nx1,rfl,h1,h5⟩
  cases h5 with
  | out hr he =>
    refine wpIn_mono (hr H C0 C1 M1 a hH h0 h1) ?_
    rintro e' a' w' ⟨rfl,hq⟩
    cases e' with
    | normal=>exact absurd rfl he
    | _=>exact⟨rfl,hq⟩
  | @round k _ τ2 _ μ2 _ nx2 hr h7 =>
    refine wpIn_mono (hr H C0 C1 M1 a hH h0 h1) ?_
    rintro e' a' w' ⟨rfl,C2,M2,rfl,hf⟩
    exact⟨k,by omega,C2,M2,τ2,μ2,nx2,rfl,hf,h7⟩
end
end
end Go.K
