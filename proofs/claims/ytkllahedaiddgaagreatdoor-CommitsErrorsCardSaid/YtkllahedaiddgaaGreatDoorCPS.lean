/- Digests of nodes: contracts of nodes.Digest and of its definition; both are one function. No condition. -/
import Derived.Test.YtkllahedaiddgaaGreatDoorNC
import Derived.Test.YtkllahedaiddgaaGreatDoorLC1
import Derived.Test.YtkllahedaiddgaaGreatDoorSEQ
set_option linter.unusedSimpArgs false
set_option linter.unusedVariables false
set_option maxRecDepth 100000
namespace Go.K
open Go.Ab Go.RowKit Go.Y Go.Proofs
noncomputable section
theorem JJ {f:Nat→Nat}:∀ {n i:Nat},i < n→nN (lsF n f) i=f i:=by
 have h:∀(n s i:Nat),i < n→nN (@Nat.rec (fun _=>Nat→List Nat) (fun _=>[]) (fun _ ih i=>f i::ih (Nat.succ i)) n s) i=f (s + i):=by
  intro n
  induction n with
  | zero=>intro s i h; omega
  | succ n ih =>
   intro s i h
   cases i with
   | zero=>rfl
   | succ i =>
    show nN (@Nat.rec (fun _=>Nat→List Nat) (fun _=>[]) (fun _ ih i=>f i::ih (Nat.succ i)) n (Nat.succ s)) i=_
    rw[ih (Nat.succ s) i (by omega),show Nat.succ s + i=s + (i + 1) by omega]
 intro n i hi
 have:=h n 0 i hi
 rwa [Nat.zero_add] at this
theorem wt {f:Nat→Nat}(n:Nat):(lsF n f).length=n:=by
 have h:∀(n s:Nat),(@Nat.rec (fun _=>Nat→List Nat) (fun _=>[]) (fun _ ih i=>f i::ih (Nat.succ i)) n s).length=n:=by
  intro n
  induction n with
  | zero=>intro s; rfl
  | succ n ih=>intro s; show (_::_).length=_; rw[List.length_cons,ih]
 exact h n 0
theorem zeu {f g:Nat→Nat}{n:Nat}(h:∀ i,i < n→f i=g i):lsF n f=lsF n g :=
 zcV (by rw[wt,wt]) fun i hi=>by
  rw[wt] at hi
  rw[JJ hi,JJ hi,h i hi]
theorem Zf {l:List Nat}{B:Nat}(hB:0 < B) (h:∀ x∈l,x < B):∀ i,nN l i < B:=by
 intro i
 induction l generalizing i with
 | nil=>exact hB
 | cons x l ih =>
  cases i with
  | zero=>exact h x List.mem_cons_self
  | succ i=>exact ih (fun y hy=>h y (List.mem_cons_of_mem _ hy)) i
theorem zpG {h h' b b':Nat→Nat}(h1:∀ i,i < 8→h i=h' i) (h2:∀ i,i < 64→b i=b' i) {j:Nat}(hj:j < 8):S.comp h b j=S.comp h' b' j:=by
 have e1:S.stOf h=S.stOf h':=by
  unfold S.stOf
  rw[h1 0 (by omega),h1 1 (by omega),h1 2 (by omega),h1 3 (by omega),h1 4 (by omega),h1 5 (by omega),h1 6 (by omega),h1 7 (by omega)]
 have e2:S.sched b=S.sched b':=by
  funext j
  unfold S.sched
  rw[SR.gL_congr (ld':=S.load32 b') (nw':=S.nextW) (fun t ht=>by
   rw[SR.l1,SR.l1,h2 _ (by omega),h2 _ (by omega),h2 _ (by omega),h2 _ (by omega)]) (fun _ _ _ _=>rfl) 64]
 unfold S.comp
 rw[h1 j hj,e1,e2]
theorem zpH {h h' b b':Nat→Nat}(h1:∀ i,i < 8→h i=h' i) (h2:∀ i,i < 64→b i=b' i) {j:Nat}(hj:j < 8):R.comp h b j=R.comp h' b' j:=by
 have e1:S.stOf h=S.stOf h':=by
  unfold S.stOf
  rw[h1 0 (by omega),h1 1 (by omega),h1 2 (by omega),h1 3 (by omega),h1 4 (by omega),h1 5 (by omega),h1 6 (by omega),h1 7 (by omega)]
 have e2:R.sched b=R.sched b':=by
  funext j
  unfold R.sched
  rw[SR.gL_congr (ld':=R.load32 b') (nw':=R.nextW) (fun t ht=>by
   rw[SR.l2,SR.l2,h2 _ (by omega),h2 _ (by omega),h2 _ (by omega),h2 _ (by omega)]) (fun _ _ _ _=>rfl) 64]
 unfold R.comp
 rw[h1 j hj,e1,e2]
def cfS:CP:=fun h b i=>S.comp (nN h) (nN b) i
def cfR:CP:=fun h b i=>R.comp (nN h) (nN b) i
theorem zpI:KCS Tryz.prog 276 (sCp cfS):=by
 have hc:=csg zeO
 refine⟨hc.1,fun l K hs=>?_⟩
 obtain⟨x,y,rfl,h1⟩:=X4 hs
 obtain⟨h2,h3⟩:=zd h1
 obtain⟨h4,h5⟩:=zd h3
 obtain⟨f,hf,hfa,hfi⟩:=zez h2
 obtain⟨g,hg,hga,hgi⟩:=zez h4
 refine⟨_,h5,fun B μ nx mx l0 hl=>?_⟩
 have hcall:=vk (B:=B) (μ:=μ) (nx:=nx) (mx:=mx) gnL hc rfl hl (by
  rw[jO,List.map_cons,List.map_cons,List.map_nil,hf,hg]
  show (v6 .u32 8 f&&v6 .u8 64 g)=true
  rw[hfa,hga]; rfl)
 rw[jO,List.map_cons,List.map_cons,List.map_nil,hf,hg] at hcall
 refine hcall.imp ?_ (MImp.refl _) (Nat.le_refl _) (Nat.le_refl _)
 refine yA fun i hi=>?_
 show wV .u32 (S.comp (fun i=>xp (f i)) (fun i=>xp (g i)) i)=_
 rw[zpG (h':=nN (lsK x 8)) (b':=nN (lsK y 64)) (fun i hi=>by rw[Z0 x 8 i hi,hfi i]; rfl) (fun i hi=>by rw[Z0 y 64 i hi,hgi i]; rfl) hi]
 rfl
theorem zpJ (x:KV) (off:Nat):∀(n i:Nat),i < n→nN (lsO x off n) i=ntK x (off + i):=by
 have h:∀(n s i:Nat),i < n→nN (@Nat.rec (fun _=>Nat→List Nat) (fun _=>[]) (fun _ ih i=>ntK x i::ih (Nat.succ i)) n s) i=ntK x (s + i):=by
  intro n
  induction n with
  | zero=>intro s i h; omega
  | succ n ih =>
   intro s i h
   cases i with
   | zero=>rfl
   | succ i =>
    show nN (@Nat.rec (fun _=>Nat→List Nat) (fun _=>[]) (fun _ ih i=>ntK x i::ih (Nat.succ i)) n (Nat.succ s)) i=_
    rw[ih (Nat.succ s) i (by omega),show Nat.succ s + i=s + (i + 1) by omega]
 exact fun n i hi=>h n off i hi
theorem zpK:KCS Tryz.prog 190 (zz8 cfR):=by
 have hc:=csg zeZ
 refine⟨hc.1,fun l K hs=>?_⟩
 obtain⟨x,y,rfl,h1⟩:=X4 hs
 obtain⟨h2,h3⟩:=zd h1
 obtain⟨f,hf,hfa,hfi⟩:=zez h2
 rcases vI h3 with ⟨u,cl,e,off,len,c,rfl,h7⟩ | ⟨_,h7⟩
 ·obtain⟨h8,h5⟩:=zd h7
  obtain⟨h10,h11⟩:=za.1 h8
  obtain⟨h12,h13⟩:=za.1 h11
  obtain rfl:=qg h10
  obtain rfl:=zO h12
  obtain⟨h14,h15⟩:=za.1 h13
  obtain⟨m,g,hv,hg⟩:=qK h14
  have hga:v6 .u8 64 (fun i=>g (off + i))=true:=List.all_eq_true.2 fun i hi=>by
   show Go.Y.isW .u8 (g (off + i))=true
   rw[hg (off + i)]
   exact zsO (YB h15 i (List.mem_range.1 hi))
  have hro:(KV.ro u cl .sc off 64 c).v=.ro u cl .sc 64 fun i=>g (off + i):=by
   rw[ZX]
   congr 1
   funext i
   rw[hv]; rfl
  refine⟨_,h5,fun B μ nx mx l0 hl=>?_⟩
  have hcall:=vk (B:=B) (μ:=μ) (nx:=nx) (mx:=mx) gnL hc rfl hl (by
   rw[jO,List.map_cons,List.map_cons,List.map_nil,hf,hro]
   show (v6 .u32 8 f&&v6 .u8 64 fun i=>g (off + i))=true
   rw[hfa,hga]; rfl)
  rw[jO,List.map_cons,List.map_cons,List.map_nil,hf,hro] at hcall
  refine hcall.imp ?_ (MImp.refl _) (Nat.le_refl _) (Nat.le_refl _)
  refine yA fun i hi=>?_
  show wV .u32 (R.comp (fun i=>xp (f i)) (fun i=>xp (g (off + i))) i)=_
  rw[zpH (h':=nN (lsK x 8)) (b':=nN (lsO c off 64)) (fun i hi=>by rw[Z0 x 8 i hi,hfi i]; rfl) (fun i hi=>by rw[zpJ c off 64 i hi,hg (off + i)]; rfl) hi]
  rfl
 ·exact h7.elim
end
end Go.K
set_option maxRecDepth 100000
namespace Go.K
open Go.Ab Go.RowKit Go.Y Go.Proofs
noncomputable section
attribute [local instance 10000] gO
def Rc.wb (x:Rc):Prop:=x.st < 256∧x.sh < 4294967296∧x.ct < 18446744073709551616∧∀ b∈x.tg,b < 256
def En.wb (x:En):Prop:=x.st < 256∧∀ b∈x.dg,b < 256
def Nd.wb (x:Nd):Prop:=x.lv < 256∧x.ix < 4294967296∧(∀ i,i < 4→(x.rc i).wb)∧∀ i,i < 4→(x.en i).wb
theorem zrg (a b:Nat):Nat.mod a b=a % b:=rfl
theorem zrh (a b:Nat):Nat.div a b=a / b:=rfl
theorem zlE {a:Nat}(h:a < 4294967296):R32 a=P32 a:=by
 unfold R32 P32 rr dd
 simp only[zrg,zrh]
 refine List.cons_eq_cons.2 ⟨by omega,List.cons_eq_cons.2 ⟨by omega,List.cons_eq_cons.2 ⟨by omega,List.cons_eq_cons.2 ⟨by omega,rfl⟩⟩⟩⟩
theorem zlF {a:Nat}(h:a < 4294967296):S32 a=P32 a:=by
 unfold S32 P32
 simp only[zrg,zrh]
 refine List.cons_eq_cons.2 ⟨by omega,List.cons_eq_cons.2 ⟨by omega,List.cons_eq_cons.2 ⟨by omega,List.cons_eq_cons.2 ⟨by omega,rfl⟩⟩⟩⟩
theorem JX {a:Nat}(h:a < 18446744073709551616):dd a=a / 256:=by
 unfold dd
 simp only[zrg,zrh]; omega
theorem zlG {a:Nat}(h:a < 18446744073709551616):R64 a=P64 a:=by
 have d1:dd a=a / 256:=JX h
 have d2:dd (dd a)=a / 65536:=by rw[d1,JX (by omega)]; omega
 have d3:dd (dd (dd a))=a / 16777216:=by rw[d2,JX (by omega)]; omega
 have d4:dd (dd (dd (dd a)))=a / 4294967296:=by rw[d3,JX (by omega)]; omega
 have d5:dd (dd (dd (dd (dd a))))=a / 1099511627776:=by rw[d4,JX (by omega)]; omega
 have d6:dd (dd (dd (dd (dd (dd a)))))=a / 281474976710656:=by rw[d5,JX (by omega)]; omega
 have d7:dd (dd (dd (dd (dd (dd (dd a))))))=a / 72057594037927936:=by rw[d6,JX (by omega)]; omega
 unfold R64 P64
 rw[d7,d6,d5,d4,d3,d2,d1]
 unfold rr
 simp only[zrg,zrh,Nat.mod_mod,Nat.div_one]
theorem YQ {x:Rc}(h:x.wb):rcL R32 R64 x=rcL P32 P64 x:=by
 unfold rcL; rw[zlE h.2.1,zlG h.2.2.1]
theorem zri {x:Nd}(h:x.wb):ZZ S32 R32 R64 x=ZZ P32 P32 P64 x:=by
 unfold ZZ
 rw[zlF h.2.1,YQ (h.2.2.1 0 (by omega)),YQ (h.2.2.1 1 (by omega)),YQ (h.2.2.1 2 (by omega)),YQ (h.2.2.1 3 (by omega))]
theorem zeR {x:Nd}(h:x.wb):wG S32 x=wG P32 x:=by
 unfold wG
 rw[zlF h.2.1]
theorem jn {l m:List Nat}{B:Nat}(h1:∀ x∈l,x < B) (h2:∀ x∈m,x < B):∀ x∈apL l m,x < B:=by
 induction l with
 | nil=>exact h2
 | cons y l ih =>
  intro x hx
  rcases List.mem_cons.1 (show x∈y::apL l m from hx) with rfl | h
  ·exact h1 _ List.mem_cons_self
  ·exact ih (fun z hz=>h1 z (List.mem_cons_of_mem _ hz)) x h
theorem Xd {f:Nat→Nat}{B n:Nat}(h:∀ i,i < n→f i < B):∀ x∈lsF n f,x < B:=by
 intro x hx
 obtain⟨i,hi,rfl⟩:=List.getElem_of_mem hx
 have hi':i < n:=by rw[←wt (f:=f) n]; exact hi
 have e:nN (lsF n f) i=(lsF n f)[i]:=by
  have:∀(l:List Nat) (i:Nat) (h:i < l.length),nN l i=l[i]:=by
   intro l
   induction l with
   | nil=>intro i h; simp at h
   | cons y l ih=>intro i h; cases i with
    | zero=>rfl
    | succ i=>exact ih i (by simpa using h)
  exact this _ _ hi
 rw[←e,JJ hi']
 exact h i hi'
theorem VD (a:Nat):∀ x∈P32 a,x < 256:=by
 intro x hx
 unfold P32 at hx
 simp only[List.mem_cons,List.not_mem_nil,or_false] at hx
 rcases hx with rfl | rfl | rfl | rfl<;>exact Nat.mod_lt _ (by omega)
theorem zeS (a:Nat):∀ x∈P64 a,x < 256:=by
 intro x hx
 unfold P64 at hx
 simp only[List.mem_cons,List.not_mem_nil,or_false] at hx
 rcases hx with rfl | rfl | rfl | rfl | rfl | rfl | rfl | rfl<;>exact Nat.mod_lt _ (by omega)
theorem Xe {l:List Nat}{a B:Nat}(h:a < B) (h2:∀ x∈l,x < B):∀ x∈a::l,x < B:=by
 intro x hx
 rcases List.mem_cons.1 hx with rfl | h3
 ·exact h
 ·exact h2 x h3
theorem YU {x:Rc}(h:x.wb):∀ b∈rcL P32 P64 x,b < 256 :=
 Xe h.1 (jn (VD _) (jn (zeS _) (Xd fun i _=>Zf (by omega) h.2.2.2 i)))
theorem YV {x:En}(h:x.wb):∀ b∈enL x,b < 256:=Xe h.1 (Xd fun i _=>Zf (by omega) h.2 i)
theorem zrj {x:Nd}(h:x.wb):∀ b∈ZZ P32 P32 P64 x,b < 256 :=
 Xe h.1 (jn (VD _) (jn (YU (h.2.2.1 0 (by omega))) (jn (YU (h.2.2.1 1 (by omega))) (jn (YU (h.2.2.1 2 (by omega))) (YU (h.2.2.1 3 (by omega)))))))
theorem zeT {x:Nd}(h:x.wb):∀ b∈wG P32 x,b < 256 :=
 Xe h.1 (jn (VD _) (jn (YV (h.2.2.2 0 (by omega))) (jn (YV (h.2.2.2 1 (by omega))) (jn (YV (h.2.2.2 2 (by omega))) (YV (h.2.2.2 3 (by omega)))))))
theorem zxv {m:List Nat}{L tot j:Nat}(h:∀ b∈m,b < 256):ziA P64 m L tot j < 256:=by
 unfold ziA
 cases Nat.blt j L with
 | true=>exact Zf (by omega) h j
 | false =>
  cases Nat.beq j L with
  | true=>show 128 < 256; omega
  | false =>
   cases Nat.blt j (Nat.sub tot 8) with
   | true=>show 0 < 256; omega
   | false=>exact Zf (by omega) (zeS _) _
theorem zxw {m:List Nat}{L tot k:Nat}(hL:L < 2305843009213693952):zfJ R64 m L tot k=zfJ P64 m L tot k:=by
 unfold zfJ ziA
 rw[zlG (a:=Nat.mul 8 L) (by show 8 * L < _; omega)]
theorem zCz {h b:List Nat}{i:Nat}(hb:∀ j,j < 64→nN b j < 256):cfR h b i=cfS h b i:=(SR.comp_eq hb i).symm
theorem zlH (a b:Nat):S.add32 a b < 4294967296:=Nat.mod_lt _ (by omega)
theorem zCA (h b:List Nat) (i:Nat):cfS h b i < 4294967296:=by
 unfold cfS S.comp
 exact zlH _ _
theorem zbu (cp:CP) (p32 p64:Nat→List Nat) (m:List Nat) (L nb:Nat):(jK cp p32 p64 m L nb).length=32:=wt 32
theorem zeU (cp:CP) (p64:Nat→List Nat) (m:List Nat) (L nb:Nat):∀ b∈jK cp P32 p64 m L nb,b < 256:=Xd fun i _=>Zf (by omega) (VD _) _
attribute [local irreducible] cfS cfR ziA jK
theorem stS (cp:CP) (p:Nat→List Nat) (m:List Nat) (L tot k:Nat):stL cp p m L tot (k + 1)=lsF 8 fun i=>cp (stL cp p m L tot k) (zfJ p m L tot k) i:=rfl
theorem zCB {m:List Nat}{L tot:Nat}(hL:L < 2305843009213693952) (h:∀ b∈m,b < 256) (k:Nat):stL cfR R64 m L tot k=stL cfS P64 m L tot k:=by
 induction k with
 | zero=>rfl
 | succ k ih =>
  rw[stS,stS,ih,zxw hL]
  refine zeu fun i hi=>zCz fun j hj=>?_
  unfold zfJ
  rw[JJ hj]
  exact zxv h
theorem zxx:∀ x∈zz6,x < 4294967296:=by decide
theorem zCC {p:Nat→List Nat}{m:List Nat}{L tot:Nat}(k i:Nat):nN (stL cfS p m L tot k) i < 4294967296:=by
 cases k with
 | zero=>exact Zf (by omega) zxx i
 | succ k =>
  rw[stS]
  exact Zf (by omega) (Xd fun i hi=>zCA _ _ _) i
theorem zcW {m:List Nat}{L nb:Nat}(hL:L < 2305843009213693952) (h:∀ b∈m,b < 256):jK cfR R32 R64 m L nb=jK cfS P32 P64 m L nb:=by
 unfold jK
 refine zeu fun j hj=>?_
 rw[zCB hL h,zlE (zCC _ _)]
def Nd.dg (x:Nd):List Nat:=@Nat.rec (fun _=>List Nat) (jK cfS P32 P64 (ZZ P32 P32 P64 x) 185 4) (fun _ _=>jK cfS P32 P64 (wG P32 x) 137 3) x.lv
theorem zxy (x:Nd):x.dg.length=32:=by
 unfold Nd.dg
 cases x.lv with
 | zero=>exact zbu _ _ _ _ _ _
 | succ n=>exact zbu _ _ _ _ _ _
theorem zCD (x:Nd):∀ b∈x.dg,b < 256:=by
 unfold Nd.dg
 cases x.lv with
 | zero=>exact zeU _ _ _ _ _
 | succ n=>exact zeU _ _ _ _ _
theorem zlI {n:Nat}{L:List Nat}{r:KV}(h:byQ n L r):Imp r.v (kBy n (nN L)).v:=by
 rw[←h.2]
 exact zsP h.1
theorem zCE {L:List Nat}{r:KV}(h:tQ L r):Imp r.v (KV.tup (.cons (kBy 32 (nN L)) (.cons (nI 0) .nl))).v:=by
 rcases yy h with ⟨l,rfl,h1⟩ | ⟨_,h1⟩
 ·obtain⟨a,r,rfl,h2⟩:=v8 h1
  obtain⟨e,r2,rfl,h3⟩:=v8 h2
  obtain⟨rfl,h4,h5⟩:=JM h3
  obtain rfl:=qN h4
  exact Imp.tup (Imp.cons (zlI h5) (Imp.refl _))
 ·exact h1.elim
theorem yg {v:KV}{f g:KV→KV→Prop}(h:onC v f) (H:∀ a b,f a b→g a b):onC v g:=by
 obtain⟨a,b,rfl,h1⟩:=v8 h
 exact (show g a b from H a b h1)
theorem Ww {k:IntKind}{v:KV}{f g:Nat→Prop}(h:onN k v f) (H:∀ n,f n→g n):onN k v g:=by
 unfold onN at h ⊢
 rcases zI h with ⟨k',a,rfl,h1⟩ | ⟨_,h1⟩
 ·obtain⟨h2,h3⟩:=zd h1
  show chk (xq k' k) 910 _
  rw[h2]
  cases a with
  | ofNat n=>exact H n h3
  | negSucc n=>exact h3
 ·exact h1.elim
theorem zeV {v:KV}{p q:Prop}(h:onE v p) (H:p→q):onE v q:=by
 obtain⟨rfl,h1⟩:=JM h
 exact (show q from H h1)
theorem zto {c:Bool}{n:Nat}{p q:Prop}(h:chk c n p) (H:p→q):chk c n q:=by
 obtain⟨h1,h2⟩:=zd h
 rw[h1]; exact H h2
theorem zlJ {n:Nat}{v:KV}{f g:List Nat→Prop}(h:ziM n v f) (H:∀ l,f l→g l):ziM n v g:=zto h (H _)
theorem zlK {v:KV}{f g:Rc→Prop}(h:QC v f) (H:∀ x,f x→g x):QC v g:=by
 unfold QC at h ⊢
 refine yg h fun _ _ h=>?_
 refine Ww h fun _ h=>?_
 refine yg h fun _ _ h=>?_
 refine yg h fun _ _ h=>?_
 refine Ww h fun _ h=>?_
 refine yg h fun _ _ h=>?_
 refine Ww h fun _ h=>?_
 refine zeV h fun h=>?_
 refine yg h fun _ _ h=>?_
 refine zlJ h fun _ h=>?_
 exact zeV h fun h=>H _ h
theorem zlL {v:KV}{f g:En→Prop}(h:QD v f) (H:∀ x,f x→g x):QD v g:=by
 unfold QD at h ⊢
 refine yg h fun _ _ h=>?_
 refine Ww h fun _ h=>?_
 refine yg h fun _ _ h=>?_
 refine zlJ h fun _ h=>?_
 exact zeV h fun h=>H _ h
theorem ztp {α:Type}{on:KV→(α→Prop)→Prop}(hon:∀ v (f g:α→Prop),on v f→(∀ x,f x→g x)→on v g) {v:KV}{f g:(Nat→α)→Prop}(h:on4 on v f) (H:∀ x,f x→g x):on4 on v g:=by
 unfold on4 at h ⊢
 refine zto h fun h=>?_
 refine hon _ _ _ h fun _ h=>?_
 refine hon _ _ _ h fun _ h=>?_
 refine hon _ _ _ h fun _ h=>?_
 exact hon _ _ _ h fun _ h=>H _ h
attribute [local irreducible] QC QD on4 in
theorem zxz {v:KV}{f g:Nd→Prop}(h:Vf v f) (H:∀ x,f x→g x):Vf v g:=by
 unfold Vf at h ⊢
 refine yg h fun _ _ h=>?_
 refine Ww h fun lv h=>?_
 refine yg h fun _ _ h=>?_
 refine Ww h fun ix h=>?_
 refine yg h fun _ _ h=>?_
 refine ztp (on:=QC) (fun v f g h H=>zlK h H) h fun rc h=>?_
 refine yg h fun _ _ h=>?_
 refine ztp (on:=QD) (fun v f g h H=>zlL h H) h fun en h=>?_
 exact zeV h (H ⟨lv,ix,rc,en⟩)
theorem zFI:KCS Tryz.prog 192 zz3:=zcL.imp fun l K h=>by
 obtain⟨v,rfl,h1⟩:=wO h
 show Vf v fun x=>K (nI x.e)
 exact zxz h1 fun x hx=>by rw[show x.e=0 from if_pos hx.1]; exact hx.2
theorem zFJ:KCS Tryz.prog 125 zz4:=zlx.imp fun l K h=>by
 obtain⟨v,rfl,h1⟩:=wO h
 show QC v fun x=>K (nI x.e)
 exact zlK h1 fun x hx=>by rw[Rc.e_t hx.1]; exact hx.2
theorem zFK:KCS Tryz.prog 247 zz5:=zly.imp fun l K h=>by
 obtain⟨v,rfl,h1⟩:=wO h
 show QD v fun x=>K (nI x.e)
 exact zlL h1 fun x hx=>by rw[En.e_t hx.1]; exact hx.2
theorem zlM:KOk (zbj cfS):=xA.tab ⟨zFI,zFJ,zFK,zpI.opn,trivial⟩
theorem zxA:KOk (E55 cfR):=xA.tab ⟨zpK.opn,trivial⟩
theorem ztq {α:Type}{fid:FuncId}(hf:JU fid) {on:KV→(α→Prop)→Prop}{k:α→KV}{W:α→Prop}{sp:α→KV}{pre:α→Prop}
  (hon:∀ v f,on v f→∃ x,W x∧Imp v.v (k x).v∧f x) (hr:∀ x,xl (sp x).v=true)
  (h:∀ x,W x→pre x→∃(E:KEnv) (n:Nat) (Q:KV→Prop),KOk E∧E.P=Tryz.prog∧(∀ r,Q r→Imp r.v (sp x).v)∧zn E (zu E n) 0 fid [k x] .e 0 0 fun r _ _ _=>Q r):KCS Tryz.prog fid (fun l K=>la1 l fun v=>on v fun x=>pre x∧K (sp x)):=by
 refine zhu hf fun l K hs=>?_
 obtain⟨v,rfl,h1⟩:=wO hs
 obtain⟨x,w,hi,hp,hk⟩:=hon _ _ h1
 obtain⟨E,n,Q,hE,hP,hq,hc⟩:=h x w hp
 refine⟨E,hE,hP,n,Q,sp x,[k x],hk,hr x,hq,fun C m hm=>?_,hc⟩
 exact Imp.cons hi (Imp.refl _) C m hm
def zrk (x:Nd):Prop:=x.ok∧x.lv≤2
def ztr:zg:=fun l K=>la1 l fun v=>Vf v fun x=>zrk x∧K (.tup (.cons (kBy 32 (nN x.dg)) (.cons (nI 0) .nl)))
theorem YW {x:Nd}(w:x.wl) (hk:x.ok) (h0:x.lv=0) {i:Nat}(hi:i < 4):(x.rc i).nf.ok:=by rw[Rc.nf_eq (w.1 i hi)]; exact (hk.2.1 h0).2 i hi
theorem yh {x:Nd}(w:x.wl) (hk:x.ok) (h0:x.lv≠0) {i:Nat}(hi:i < 4):(x.en i).nf.ok:=by rw[En.nf_eq (w.2 i hi)]; exact (hk.2.2 h0).2 i hi
theorem zbv {x:Nd}(w:x.wl) (hk:x.ok):x.nf.ok:=(Nd.ok_congr (x:=x.nf) (y:=x) rfl (Nd.nf_rc' w) (Nd.nf_en' w)).2 hk
attribute [local irreducible] zn zu
theorem zxB:KCS Tryz.prog 158 ztr:=ztq (pre:=zrk) ⟨Tryz.f158,Tryz.func158,by kernel_rfl,by kernel_rfl⟩ (fun v f h=>w6 h) (fun x=>rfl) fun x w hp=>by
 obtain⟨hk,hl⟩:=hp
 have fin:∀ L,x.dg=L→∀ r,tQ L r→Imp r.v (KV.tup (.cons (kBy 32 (nN x.dg)) (.cons (nI 0) .nl))).v:=fun L h r hr=>by rw[h]; exact zCE hr
 obtain⟨lv,ix,rc,en⟩:=x
 match lv,hl with
 | 0,_ =>
  have h:zsF cfS ⟨0,ix,rc,en⟩ (jK cfS P32 P64 (ZZ P32 P32 P64 (z0 ⟨0,ix,rc,en⟩)) 185 4):=Eq.mpr (zz7 cfS ⟨0,ix,rc,en⟩) ⟨zbv w hk,YW w hk rfl (by omega),YW w hk rfl (by omega),YW w hk rfl (by omega),YW w hk rfl (by omega),rfl,rfl,rfl⟩
  exact⟨zbj cfS,300,tQ _,zlM,rfl,fin _ rfl,h⟩
 | 1,_ =>
  have h:zes cfS 0 ⟨1,ix,rc,en⟩ (jK cfS P32 P64 (wG P32 (s1 0 ⟨1,ix,rc,en⟩)) 137 3):=Eq.mpr (zu0 cfS ⟨1,ix,rc,en⟩) ⟨zbv (x:=⟨1,ix,rc,en⟩) w hk,yh w hk (by simp) (by omega),yh w hk (by simp) (by omega),yh w hk (by simp) (by omega),yh w hk (by simp) (by omega),rfl,rfl,rfl⟩
  exact⟨zbj cfS,300,tQ _,zlM,rfl,fin _ rfl,h⟩
 | 2,_ =>
  have h:zes cfS 1 ⟨2,ix,rc,en⟩ (jK cfS P32 P64 (wG P32 (s1 1 ⟨2,ix,rc,en⟩)) 137 3):=Eq.mpr (zu1 cfS ⟨2,ix,rc,en⟩) ⟨zbv (x:=⟨2,ix,rc,en⟩) w hk,yh w hk (by simp) (by omega),yh w hk (by simp) (by omega),yh w hk (by simp) (by omega),yh w hk (by simp) (by omega),rfl,rfl,rfl⟩
  exact⟨zbj cfS,300,tQ _,zlM,rfl,fin _ rfl,h⟩
def zrl (x:Nd):Prop:=x.wb∧x.lv≤2
def zeW:zg:=fun l K=>la1 l fun v=>Vf v fun x=>zrl x∧K (kBy 32 (nN x.dg))
theorem zlN:KCS Tryz.prog 55 zeW:=ztq (pre:=zrl) ⟨Tryz.f55,Tryz.func55,by kernel_rfl,by kernel_rfl⟩ (fun v f h=>w6 h) (fun x=>rfl) fun x w hp=>by
 obtain⟨hb,hl⟩:=hp
 have fin:∀ L,x.dg=L→∀ r,byQ 32 L r→Imp r.v (kBy 32 (nN x.dg)).v:=fun L h r hr=>by rw[h]; exact zlI hr
 obtain⟨lv,ix,rc,en⟩:=x
 match lv,hl with
 | 0,_ =>
  have h:zz9 cfR ⟨0,ix,rc,en⟩ (jK cfR R32 R64 (ZZ S32 R32 R64 (z0 ⟨0,ix,rc,en⟩)) 185 4):=Eq.mpr (zEg cfR ⟨0,ix,rc,en⟩) ⟨rfl,rfl⟩
  refine⟨E55 cfR,300,byQ 32 _,zxA,rfl,fin _ ?_,h⟩
  rw[zri (x:=z0 ⟨0,ix,rc,en⟩) hb,zcW (by omega) (zrj (x:=z0 ⟨0,ix,rc,en⟩) hb)]
  rfl
 | 1,_ =>
  have h:zu2 cfR 0 ⟨1,ix,rc,en⟩ (jK cfR R32 R64 (wG S32 (s1 0 ⟨1,ix,rc,en⟩)) 137 3):=Eq.mpr (zAa cfR 0 ⟨1,ix,rc,en⟩) ⟨rfl,rfl⟩
  refine⟨E55 cfR,300,byQ 32 _,zxA,rfl,fin _ ?_,h⟩
  rw[zeR (x:=s1 0 ⟨1,ix,rc,en⟩) hb,zcW (by omega) (zeT (x:=s1 0 ⟨1,ix,rc,en⟩) hb)]
  rfl
 | 2,_ =>
  have h:zu2 cfR 1 ⟨2,ix,rc,en⟩ (jK cfR R32 R64 (wG S32 (s1 1 ⟨2,ix,rc,en⟩)) 137 3):=Eq.mpr (zAa cfR 1 ⟨2,ix,rc,en⟩) ⟨rfl,rfl⟩
  refine⟨E55 cfR,300,byQ 32 _,zxA,rfl,fin _ ?_,h⟩
  rw[zeR (x:=s1 1 ⟨2,ix,rc,en⟩) hb,zcW (by omega) (zeT (x:=s1 1 ⟨2,ix,rc,en⟩) hb)]
  rfl
end
end Go.K
