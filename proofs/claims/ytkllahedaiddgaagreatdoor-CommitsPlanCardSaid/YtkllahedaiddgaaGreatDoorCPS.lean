/- caissonref18.node: the pieces. No condition. -/
import Derived.Test.YtkllahedaiddgaaGreatDoorNC
import Derived.Test.YtkllahedaiddgaaGreatDoorKSB
import Derived.Test.YtkllahedaiddgaaGreatDoorSEQ
import Derived.Test.YtkllahedaiddgaaGreatDoorK28
set_option linter.unusedSimpArgs false
set_option linter.unusedVariables false
set_option maxRecDepth 100000
namespace Go.K
open Go.Ab Go.RowKit Go.Y Go.Proofs
noncomputable section
theorem Ya {f:Nat→Nat}:∀ {n i:Nat},i < n→nN (lsF n f) i=f i:=by
 have h:∀(n s i:Nat),i < n→nN (@Nat.rec (fun _=>Nat→List Nat) (fun _=>[]) (fun _ ih i=>f i::ih (Nat.succ i)) n s) i=f (s + i):=by
  intro n
  induction n with
  | zero=>intro s i h; omega
  | succ n ih =>
   intro s i h
   cases i with
   | zero=>rfl
   | succ i =>
    show nN (@Nat.rec (fun _=>Nat→List Nat) (fun _=>[]) (fun _ ih i=>f i::ih (Nat.succ i)) n (Nat.succ s)) i=_
    rw[ih (Nat.succ s) i (by omega),show Nat.succ s + i=s + (i + 1) by omega]
 intro n i hi
 have:=h n 0 i hi
 rwa [Nat.zero_add] at this
theorem ym {f:Nat→Nat}(n:Nat):(lsF n f).length=n:=by
 have h:∀(n s:Nat),(@Nat.rec (fun _=>Nat→List Nat) (fun _=>[]) (fun _ ih i=>f i::ih (Nat.succ i)) n s).length=n:=by
  intro n
  induction n with
  | zero=>intro s; rfl
  | succ n ih=>intro s; show (_::_).length=_; rw[List.length_cons,ih]
 exact h n 0
theorem zeb {f g:Nat→Nat}{n:Nat}(h:∀ i,i < n→f i=g i):lsF n f=lsF n g :=
 zcD (by rw[ym,ym]) fun i hi=>by
  rw[ym] at hi
  rw[Ya hi,Ya hi,h i hi]
theorem wN {l:List Nat}{B:Nat}(hB:0 < B) (h:∀ x∈l,x < B):∀ i,nN l i < B:=by
 intro i
 induction l generalizing i with
 | nil=>exact hB
 | cons x l ih =>
  cases i with
  | zero=>exact h x List.mem_cons_self
  | succ i=>exact ih (fun y hy=>h y (List.mem_cons_of_mem _ hy)) i
theorem zoM {h h' b b':Nat→Nat}(h1:∀ i,i < 8→h i=h' i) (h2:∀ i,i < 64→b i=b' i) {j:Nat}(hj:j < 8):S.comp h b j=S.comp h' b' j:=by
 have e1:S.stOf h=S.stOf h':=by
  unfold S.stOf
  rw[h1 0 (by omega),h1 1 (by omega),h1 2 (by omega),h1 3 (by omega),h1 4 (by omega),h1 5 (by omega),h1 6 (by omega),h1 7 (by omega)]
 have e2:S.sched b=S.sched b':=by
  funext j
  unfold S.sched
  rw[SR.gL_congr (ld':=S.load32 b') (nw':=S.nextW) (fun t ht=>by
   rw[SR.l1,SR.l1,h2 _ (by omega),h2 _ (by omega),h2 _ (by omega),h2 _ (by omega)]) (fun _ _ _ _=>rfl) 64]
 unfold S.comp
 rw[h1 j hj,e1,e2]
theorem zoN {h h' b b':Nat→Nat}(h1:∀ i,i < 8→h i=h' i) (h2:∀ i,i < 64→b i=b' i) {j:Nat}(hj:j < 8):R.comp h b j=R.comp h' b' j:=by
 have e1:S.stOf h=S.stOf h':=by
  unfold S.stOf
  rw[h1 0 (by omega),h1 1 (by omega),h1 2 (by omega),h1 3 (by omega),h1 4 (by omega),h1 5 (by omega),h1 6 (by omega),h1 7 (by omega)]
 have e2:R.sched b=R.sched b':=by
  funext j
  unfold R.sched
  rw[SR.gL_congr (ld':=R.load32 b') (nw':=R.nextW) (fun t ht=>by
   rw[SR.l2,SR.l2,h2 _ (by omega),h2 _ (by omega),h2 _ (by omega),h2 _ (by omega)]) (fun _ _ _ _=>rfl) 64]
 unfold R.comp
 rw[h1 j hj,e1,e2]
def cfS:CP:=fun h b i=>S.comp (nN h) (nN b) i
def cfR:CP:=fun h b i=>R.comp (nN h) (nN b) i
theorem zoO:KCS Tryz.prog 276 (sCp cfS):=by
 have hc:=zeo
 refine⟨hc.1,fun l K hs=>?_⟩
 obtain⟨x,y,rfl,h1⟩:=qt hs
 obtain⟨h2,h3⟩:=ze h1
 obtain⟨h4,h5⟩:=ze h3
 obtain⟨f,hf,hfa,hfi⟩:=zeg h2
 obtain⟨g,hg,hga,hgi⟩:=zeg h4
 refine⟨_,h5,fun B μ nx mx l0 hl=>?_⟩
 have hcall:=vy (B:=B) (μ:=μ) (nx:=nx) (mx:=mx) gnL hc rfl hl (by
  rw[jJ,List.map_cons,List.map_cons,List.map_nil,hf,hg]
  show (qi .u32 8 f&&qi .u8 64 g)=true
  rw[hfa,hga]; rfl)
 rw[jJ,List.map_cons,List.map_cons,List.map_nil,hf,hg] at hcall
 refine hcall.imp ?_ (MImp.refl _) (Nat.le_refl _) (Nat.le_refl _)
 refine yn fun i hi=>?_
 show wV .u32 (S.comp (fun i=>x6 (f i)) (fun i=>x6 (g i)) i)=_
 rw[zoM (h':=nN (lsK x 8)) (b':=nN (lsK y 64)) (fun i hi=>by rw[ZS x 8 i hi,hfi i]; rfl) (fun i hi=>by rw[ZS y 64 i hi,hgi i]; rfl) hi]
 rfl
theorem zoP (x:KV) (off:Nat):∀(n i:Nat),i < n→nN (lsO x off n) i=ntK x (off + i):=by
 have h:∀(n s i:Nat),i < n→nN (@Nat.rec (fun _=>Nat→List Nat) (fun _=>[]) (fun _ ih i=>ntK x i::ih (Nat.succ i)) n s) i=ntK x (s + i):=by
  intro n
  induction n with
  | zero=>intro s i h; omega
  | succ n ih =>
   intro s i h
   cases i with
   | zero=>rfl
   | succ i =>
    show nN (@Nat.rec (fun _=>Nat→List Nat) (fun _=>[]) (fun _ ih i=>ntK x i::ih (Nat.succ i)) n (Nat.succ s)) i=_
    rw[ih (Nat.succ s) i (by omega),show Nat.succ s + i=s + (i + 1) by omega]
 exact fun n i hi=>h n off i hi
theorem zoQ:KCS Tryz.prog 190 (zBd cfR):=by
 have hc:=zep
 refine⟨hc.1,fun l K hs=>?_⟩
 obtain⟨x,y,rfl,h1⟩:=qt hs
 obtain⟨h2,h3⟩:=ze h1
 obtain⟨f,hf,hfa,hfi⟩:=zeg h2
 rcases vA h3 with ⟨u,cl,e,off,len,c,rfl,h7⟩ | ⟨_,h7⟩
 ·obtain⟨h8,h5⟩:=ze h7
  obtain⟨h10,h11⟩:=za.1 h8
  obtain⟨h12,h13⟩:=za.1 h11
  obtain rfl:=j7 h10
  obtain rfl:=zP h12
  obtain⟨h14,h15⟩:=za.1 h13
  obtain⟨m,g,hv,hg⟩:=qp h14
  have hga:qi .u8 64 (fun i=>g (off + i))=true:=List.all_eq_true.2 fun i hi=>by
   show Go.Y.isW .u8 (g (off + i))=true
   rw[hg (off + i)]
   exact zsJ (Yb h15 i (List.mem_range.1 hi))
  have hro:(KV.ro u cl .sc off 64 c).v=.ro u cl .sc 64 fun i=>g (off + i):=by
   rw[ZQ]
   congr 1
   funext i
   rw[hv]; rfl
  refine⟨_,h5,fun B μ nx mx l0 hl=>?_⟩
  have hcall:=vy (B:=B) (μ:=μ) (nx:=nx) (mx:=mx) gnL hc rfl hl (by
   rw[jJ,List.map_cons,List.map_cons,List.map_nil,hf,hro]
   show (qi .u32 8 f&&qi .u8 64 fun i=>g (off + i))=true
   rw[hfa,hga]; rfl)
  rw[jJ,List.map_cons,List.map_cons,List.map_nil,hf,hro] at hcall
  refine hcall.imp ?_ (MImp.refl _) (Nat.le_refl _) (Nat.le_refl _)
  refine yn fun i hi=>?_
  show wV .u32 (R.comp (fun i=>x6 (f i)) (fun i=>x6 (g (off + i))) i)=_
  rw[zoN (h':=nN (lsK x 8)) (b':=nN (lsO c off 64)) (fun i hi=>by rw[ZS x 8 i hi,hfi i]; rfl) (fun i hi=>by rw[zoP c off 64 i hi,hg (off + i)]; rfl) hi]
  rfl
 ·exact h7.elim
end
end Go.K
set_option maxRecDepth 100000
namespace Go.K
open Go.Ab Go.RowKit Go.Y Go.Proofs
noncomputable section
attribute [local instance 10000] gO
def Rc.wb (x:Rc):Prop:=x.st < 256∧x.sh < 4294967296∧x.ct < 18446744073709551616∧∀ b∈x.tg,b < 256
def En.wb (x:En):Prop:=x.st < 256∧∀ b∈x.dg,b < 256
def Nd.wb (x:Nd):Prop:=x.lv < 256∧x.ix < 4294967296∧(∀ i,i < 4→(x.rc i).wb)∧∀ i,i < 4→(x.en i).wb
theorem zqQ (a b:Nat):Nat.mod a b=a % b:=rfl
theorem zqR (a b:Nat):Nat.div a b=a / b:=rfl
theorem zlf {a:Nat}(h:a < 4294967296):R32 a=P32 a:=by
 unfold R32 P32 rr dd
 simp only[zqQ,zqR]
 refine List.cons_eq_cons.2 ⟨by omega,List.cons_eq_cons.2 ⟨by omega,List.cons_eq_cons.2 ⟨by omega,List.cons_eq_cons.2 ⟨by omega,rfl⟩⟩⟩⟩
theorem zlg {a:Nat}(h:a < 4294967296):S32 a=P32 a:=by
 unfold S32 P32
 simp only[zqQ,zqR]
 refine List.cons_eq_cons.2 ⟨by omega,List.cons_eq_cons.2 ⟨by omega,List.cons_eq_cons.2 ⟨by omega,List.cons_eq_cons.2 ⟨by omega,rfl⟩⟩⟩⟩
theorem JD {a:Nat}(h:a < 18446744073709551616):dd a=a / 256:=by
 unfold dd
 simp only[zqQ,zqR]; omega
theorem zlh {a:Nat}(h:a < 18446744073709551616):R64 a=P64 a:=by
 have d1:dd a=a / 256:=JD h
 have d2:dd (dd a)=a / 65536:=by rw[d1,JD (by omega)]; omega
 have d3:dd (dd (dd a))=a / 16777216:=by rw[d2,JD (by omega)]; omega
 have d4:dd (dd (dd (dd a)))=a / 4294967296:=by rw[d3,JD (by omega)]; omega
 have d5:dd (dd (dd (dd (dd a))))=a / 1099511627776:=by rw[d4,JD (by omega)]; omega
 have d6:dd (dd (dd (dd (dd (dd a)))))=a / 281474976710656:=by rw[d5,JD (by omega)]; omega
 have d7:dd (dd (dd (dd (dd (dd (dd a))))))=a / 72057594037927936:=by rw[d6,JD (by omega)]; omega
 unfold R64 P64
 rw[d7,d6,d5,d4,d3,d2,d1]
 unfold rr
 simp only[zqQ,zqR,Nat.mod_mod,Nat.div_one]
theorem Yx {x:Rc}(h:x.wb):rcL R32 R64 x=rcL P32 P64 x:=by
 unfold rcL; rw[zlf h.2.1,zlh h.2.2.1]
theorem zeE {x:Nd}(h:x.wb):qs S32 R32 R64 x=qs P32 P32 P64 x:=by
 unfold qs
 rw[zlg h.2.1,Yx (h.2.2.1 0 (by omega)),Yx (h.2.2.1 1 (by omega)),Yx (h.2.2.1 2 (by omega)),Yx (h.2.2.1 3 (by omega))]
theorem Yy {x:Nd}(h:x.wb):jx S32 x=jx P32 x:=by
 unfold jx
 rw[zlg h.2.1]
theorem ji {l m:List Nat}{B:Nat}(h1:∀ x∈l,x < B) (h2:∀ x∈m,x < B):∀ x∈apL l m,x < B:=by
 induction l with
 | nil=>exact h2
 | cons y l ih =>
  intro x hx
  rcases List.mem_cons.1 (show x∈y::apL l m from hx) with rfl | h
  ·exact h1 _ List.mem_cons_self
  ·exact ih (fun z hz=>h1 z (List.mem_cons_of_mem _ hz)) x h
theorem Vq {f:Nat→Nat}{B n:Nat}(h:∀ i,i < n→f i < B):∀ x∈lsF n f,x < B:=by
 intro x hx
 obtain⟨i,hi,rfl⟩:=List.getElem_of_mem hx
 have hi':i < n:=by rw[←ym (f:=f) n]; exact hi
 have e:nN (lsF n f) i=(lsF n f)[i]:=by
  have:∀(l:List Nat) (i:Nat) (h:i < l.length),nN l i=l[i]:=by
   intro l
   induction l with
   | nil=>intro i h; simp at h
   | cons y l ih=>intro i h; cases i with
    | zero=>rfl
    | succ i=>exact ih i (by simpa using h)
  exact this _ _ hi
 rw[←e,Ya hi']
 exact h i hi'
theorem Vr (a:Nat):∀ x∈P32 a,x < 256:=by
 intro x hx
 unfold P32 at hx
 simp only[List.mem_cons,List.not_mem_nil,or_false] at hx
 rcases hx with rfl | rfl | rfl | rfl<;>exact Nat.mod_lt _ (by omega)
theorem zeF (a:Nat):∀ x∈P64 a,x < 256:=by
 intro x hx
 unfold P64 at hx
 simp only[List.mem_cons,List.not_mem_nil,or_false] at hx
 rcases hx with rfl | rfl | rfl | rfl | rfl | rfl | rfl | rfl<;>exact Nat.mod_lt _ (by omega)
theorem Z4 {l:List Nat}{a B:Nat}(h:a < B) (h2:∀ x∈l,x < B):∀ x∈a::l,x < B:=by
 intro x hx
 rcases List.mem_cons.1 hx with rfl | h3
 ·exact h
 ·exact h2 x h3
theorem Yz {x:Rc}(h:x.wb):∀ b∈rcL P32 P64 x,b < 256 :=
 Z4 h.1 (ji (Vr _) (ji (zeF _) (Vq fun i _=>wN (by omega) h.2.2.2 i)))
theorem YA {x:En}(h:x.wb):∀ b∈enL x,b < 256:=Z4 h.1 (Vq fun i _=>wN (by omega) h.2 i)
theorem zeG {x:Nd}(h:x.wb):∀ b∈qs P32 P32 P64 x,b < 256 :=
 Z4 h.1 (ji (Vr _) (ji (Yz (h.2.2.1 0 (by omega))) (ji (Yz (h.2.2.1 1 (by omega))) (ji (Yz (h.2.2.1 2 (by omega))) (Yz (h.2.2.1 3 (by omega)))))))
theorem YB {x:Nd}(h:x.wb):∀ b∈jx P32 x,b < 256 :=
 Z4 h.1 (ji (Vr _) (ji (YA (h.2.2.2 0 (by omega))) (ji (YA (h.2.2.2 1 (by omega))) (ji (YA (h.2.2.2 2 (by omega))) (YA (h.2.2.2 3 (by omega)))))))
theorem zyt {m:List Nat}{L tot j:Nat}(h:∀ b∈m,b < 256):zh6 P64 m L tot j < 256:=by
 unfold zh6
 cases Nat.blt j L with
 | true=>exact wN (by omega) h j
 | false =>
  cases Nat.beq j L with
  | true=>show 128 < 256; omega
  | false =>
   cases Nat.blt j (Nat.sub tot 8) with
   | true=>show 0 < 256; omega
   | false=>exact wN (by omega) (zeF _) _
theorem zyu {m:List Nat}{L tot k:Nat}(hL:L < 2305843009213693952):zfw R64 m L tot k=zfw P64 m L tot k:=by
 unfold zfw zh6
 rw[zlh (a:=Nat.mul 8 L) (by show 8 * L < _; omega)]
theorem zEJ {h b:List Nat}{i:Nat}(hb:∀ j,j < 64→nN b j < 256):cfR h b i=cfS h b i:=(SR.comp_eq hb i).symm
theorem zli (a b:Nat):S.add32 a b < 4294967296:=Nat.mod_lt _ (by omega)
theorem zEK (h b:List Nat) (i:Nat):cfS h b i < 4294967296:=by
 unfold cfS S.comp
 exact zli _ _
theorem zbi (cp:CP) (p32 p64:Nat→List Nat) (m:List Nat) (L nb:Nat):(jI cp p32 p64 m L nb).length=32:=ym 32
theorem zeH (cp:CP) (p64:Nat→List Nat) (m:List Nat) (L nb:Nat):∀ b∈jI cp P32 p64 m L nb,b < 256:=Vq fun i _=>wN (by omega) (Vr _) _
attribute [local irreducible] cfS cfR zh6 jI
theorem stS (cp:CP) (p:Nat→List Nat) (m:List Nat) (L tot k:Nat):stL cp p m L tot (k + 1)=lsF 8 fun i=>cp (stL cp p m L tot k) (zfw p m L tot k) i:=rfl
theorem zEL {m:List Nat}{L tot:Nat}(hL:L < 2305843009213693952) (h:∀ b∈m,b < 256) (k:Nat):stL cfR R64 m L tot k=stL cfS P64 m L tot k:=by
 induction k with
 | zero=>rfl
 | succ k ih =>
  rw[stS,stS,ih,zyu hL]
  refine zeb fun i hi=>zEJ fun j hj=>?_
  unfold zfw
  rw[Ya hj]
  exact zyt h
theorem zyv:∀ x∈zBb,x < 4294967296:=by decide
theorem zEM {p:Nat→List Nat}{m:List Nat}{L tot:Nat}(k i:Nat):nN (stL cfS p m L tot k) i < 4294967296:=by
 cases k with
 | zero=>exact wN (by omega) zyv i
 | succ k =>
  rw[stS]
  exact wN (by omega) (Vq fun i hi=>zEK _ _ _) i
theorem zcE {m:List Nat}{L nb:Nat}(hL:L < 2305843009213693952) (h:∀ b∈m,b < 256):jI cfR R32 R64 m L nb=jI cfS P32 P64 m L nb:=by
 unfold jI
 refine zeb fun j hj=>?_
 rw[zEL hL h,zlf (zEM _ _)]
def Nd.dg (x:Nd):List Nat:=@Nat.rec (fun _=>List Nat) (jI cfS P32 P64 (qs P32 P32 P64 x) 185 4) (fun _ _=>jI cfS P32 P64 (jx P32 x) 137 3) x.lv
theorem zyw (x:Nd):x.dg.length=32:=by
 unfold Nd.dg
 cases x.lv with
 | zero=>exact zbi _ _ _ _ _ _
 | succ n=>exact zbi _ _ _ _ _ _
theorem zEN (x:Nd):∀ b∈x.dg,b < 256:=by
 unfold Nd.dg
 cases x.lv with
 | zero=>exact zeH _ _ _ _ _
 | succ n=>exact zeH _ _ _ _ _
theorem zlj {n:Nat}{L:List Nat}{r:KV}(h:byQ n L r):Imp r.v (kBy n (nN L)).v:=by
 rw[←h.2]
 exact zsK h.1
theorem zEO {L:List Nat}{r:KV}(h:tQ L r):Imp r.v (KV.tup (.cons (kBy 32 (nN L)) (.cons (nI 0) .nl))).v:=by
 rcases yj h with ⟨l,rfl,h1⟩ | ⟨_,h1⟩
 ·obtain⟨a,r,rfl,h2⟩:=v5 h1
  obtain⟨e,r2,rfl,h3⟩:=v5 h2
  obtain⟨rfl,h4,h5⟩:=Ju h3
  obtain rfl:=jm h4
  exact Imp.tup (Imp.cons (zlj h5) (Imp.refl _))
 ·exact h1.elim
theorem wZ {v:KV}{f g:KV→KV→Prop}(h:onC v f) (H:∀ a b,f a b→g a b):onC v g:=by
 obtain⟨a,b,rfl,h1⟩:=v5 h
 exact (show g a b from H a b h1)
theorem Q5 {k:IntKind}{v:KV}{f g:Nat→Prop}(h:onN k v f) (H:∀ n,f n→g n):onN k v g:=by
 unfold onN at h ⊢
 rcases zF h with ⟨k',a,rfl,h1⟩ | ⟨_,h1⟩
 ·obtain⟨h2,h3⟩:=ze h1
  show chk (xn k' k) 910 _
  rw[h2]
  cases a with
  | ofNat n=>exact H n h3
  | negSucc n=>exact h3
 ·exact h1.elim
theorem zeI {v:KV}{p q:Prop}(h:onE v p) (H:p→q):onE v q:=by
 obtain⟨rfl,h1⟩:=Ju h
 exact (show q from H h1)
theorem ztr {c:Bool}{n:Nat}{p q:Prop}(h:chk c n p) (H:p→q):chk c n q:=by
 obtain⟨h1,h2⟩:=ze h
 rw[h1]; exact H h2
theorem zlk {n:Nat}{v:KV}{f g:List Nat→Prop}(h:zig n v f) (H:∀ l,f l→g l):zig n v g:=ztr h (H _)
theorem zll {v:KV}{f g:Rc→Prop}(h:Qf v f) (H:∀ x,f x→g x):Qf v g:=by
 unfold Qf at h ⊢
 refine wZ h fun _ _ h=>?_
 refine Q5 h fun _ h=>?_
 refine wZ h fun _ _ h=>?_
 refine wZ h fun _ _ h=>?_
 refine Q5 h fun _ h=>?_
 refine wZ h fun _ _ h=>?_
 refine Q5 h fun _ h=>?_
 refine zeI h fun h=>?_
 refine wZ h fun _ _ h=>?_
 refine zlk h fun _ h=>?_
 exact zeI h fun h=>H _ h
theorem zlm {v:KV}{f g:En→Prop}(h:Qg v f) (H:∀ x,f x→g x):Qg v g:=by
 unfold Qg at h ⊢
 refine wZ h fun _ _ h=>?_
 refine Q5 h fun _ h=>?_
 refine wZ h fun _ _ h=>?_
 refine zlk h fun _ h=>?_
 exact zeI h fun h=>H _ h
theorem zts {α:Type}{on:KV→(α→Prop)→Prop}(hon:∀ v (f g:α→Prop),on v f→(∀ x,f x→g x)→on v g) {v:KV}{f g:(Nat→α)→Prop}(h:on4 on v f) (H:∀ x,f x→g x):on4 on v g:=by
 unfold on4 at h ⊢
 refine ztr h fun h=>?_
 refine hon _ _ _ h fun _ h=>?_
 refine hon _ _ _ h fun _ h=>?_
 refine hon _ _ _ h fun _ h=>?_
 exact hon _ _ _ h fun _ h=>H _ h
attribute [local irreducible] Qf Qg on4 in
theorem zyx {v:KV}{f g:Nd→Prop}(h:XZ v f) (H:∀ x,f x→g x):XZ v g:=by
 unfold XZ at h ⊢
 refine wZ h fun _ _ h=>?_
 refine Q5 h fun lv h=>?_
 refine wZ h fun _ _ h=>?_
 refine Q5 h fun ix h=>?_
 refine wZ h fun _ _ h=>?_
 refine zts (on:=Qf) (fun v f g h H=>zll h H) h fun rc h=>?_
 refine wZ h fun _ _ h=>?_
 refine zts (on:=Qg) (fun v f g h H=>zlm h H) h fun en h=>?_
 exact zeI h (H ⟨lv,ix,rc,en⟩)
theorem zEP:KCS Tryz.prog 192 zvr:=zco.imp fun l K h=>by
 obtain⟨v,rfl,h1⟩:=wz h
 show XZ v fun x=>K (nI x.e)
 exact zyx h1 fun x hx=>by rw[show x.e=0 from if_pos hx.1]; exact hx.2
theorem zEQ:KCS Tryz.prog 125 zvs:=zk5.imp fun l K h=>by
 obtain⟨v,rfl,h1⟩:=wz h
 show Qf v fun x=>K (nI x.e)
 exact zll h1 fun x hx=>by rw[Rc.e_t hx.1]; exact hx.2
theorem zER:KCS Tryz.prog 247 zvt:=zk6.imp fun l K h=>by
 obtain⟨v,rfl,h1⟩:=wz h
 show Qg v fun x=>K (nI x.e)
 exact zlm h1 fun x hx=>by rw[En.e_t hx.1]; exact hx.2
theorem zln:KOk (zaZ cfS):=zI.tab ⟨zEP,zEQ,zER,zoO.opn,trivial⟩
theorem zyy:KOk (E55 cfR):=zI.tab ⟨zoQ.opn,trivial⟩
theorem ztt {α:Type}{fid:FuncId}(hf:JB fid) {on:KV→(α→Prop)→Prop}{k:α→KV}{W:α→Prop}{sp:α→KV}{pre:α→Prop}
  (hon:∀ v f,on v f→∃ x,W x∧Imp v.v (k x).v∧f x) (hr:∀ x,xi (sp x).v=true)
  (h:∀ x,W x→pre x→∃(E:KEnv) (n:Nat) (Q:KV→Prop),KOk E∧E.P=Tryz.prog∧(∀ r,Q r→Imp r.v (sp x).v)∧zk E (zp E n) 0 fid [k x] .e 0 0 fun r _ _ _=>Q r):KCS Tryz.prog fid (fun l K=>la1 l fun v=>on v fun x=>pre x∧K (sp x)):=by
 refine zgW hf fun l K hs=>?_
 obtain⟨v,rfl,h1⟩:=wz hs
 obtain⟨x,w,hi,hp,hk⟩:=hon _ _ h1
 obtain⟨E,n,Q,hE,hP,hq,hc⟩:=h x w hp
 refine⟨E,hE,hP,n,Q,sp x,[k x],hk,hr x,hq,fun C m hm=>?_,hc⟩
 exact Imp.cons hi (Imp.refl _) C m hm
def YD (x:Nd):Prop:=x.ok∧x.lv≤2
def zeJ:zf:=fun l K=>la1 l fun v=>XZ v fun x=>YD x∧K (.tup (.cons (kBy 32 (nN x.dg)) (.cons (nI 0) .nl)))
theorem w0 {x:Nd}(w:x.wl) (hk:x.ok) (h0:x.lv=0) {i:Nat}(hi:i < 4):(x.rc i).nf.ok:=by rw[Rc.nf_eq (w.1 i hi)]; exact (hk.2.1 h0).2 i hi
theorem vv {x:Nd}(w:x.wl) (hk:x.ok) (h0:x.lv≠0) {i:Nat}(hi:i < 4):(x.en i).nf.ok:=by rw[En.nf_eq (w.2 i hi)]; exact (hk.2.2 h0).2 i hi
theorem Z5 {x:Nd}(w:x.wl) (hk:x.ok):x.nf.ok:=(Nd.ok_congr (x:=x.nf) (y:=x) rfl (Nd.nf_rc' w) (Nd.nf_en' w)).2 hk
attribute [local irreducible] zk zp
theorem zlo:KCS Tryz.prog 158 zeJ:=ztt (pre:=YD) ⟨Tryz.f158,Tryz.func158,by kernel_rfl,by kernel_rfl⟩ (fun v f h=>wP h) (fun x=>rfl) fun x w hp=>by
 obtain⟨hk,hl⟩:=hp
 have fin:∀ L,x.dg=L→∀ r,tQ L r→Imp r.v (KV.tup (.cons (kBy 32 (nN x.dg)) (.cons (nI 0) .nl))).v:=fun L h r hr=>by rw[h]; exact zEO hr
 obtain⟨lv,ix,rc,en⟩:=x
 match lv,hl with
 | 0,_ =>
  have h:zsz cfS ⟨0,ix,rc,en⟩ (jI cfS P32 P64 (qs P32 P32 P64 (z0 ⟨0,ix,rc,en⟩)) 185 4):=Eq.mpr (zBc cfS ⟨0,ix,rc,en⟩) ⟨Z5 w hk,w0 w hk rfl (by omega),w0 w hk rfl (by omega),w0 w hk rfl (by omega),w0 w hk rfl (by omega),rfl,rfl,rfl⟩
  exact⟨zaZ cfS,300,tQ _,zln,rfl,fin _ rfl,h⟩
 | 1,_ =>
  have h:zd9 cfS 0 ⟨1,ix,rc,en⟩ (jI cfS P32 P64 (jx P32 (s1 0 ⟨1,ix,rc,en⟩)) 137 3):=Eq.mpr (zvu cfS ⟨1,ix,rc,en⟩) ⟨Z5 (x:=⟨1,ix,rc,en⟩) w hk,vv w hk (by simp) (by omega),vv w hk (by simp) (by omega),vv w hk (by simp) (by omega),vv w hk (by simp) (by omega),rfl,rfl,rfl⟩
  exact⟨zaZ cfS,300,tQ _,zln,rfl,fin _ rfl,h⟩
 | 2,_ =>
  have h:zd9 cfS 1 ⟨2,ix,rc,en⟩ (jI cfS P32 P64 (jx P32 (s1 1 ⟨2,ix,rc,en⟩)) 137 3):=Eq.mpr (zvv cfS ⟨2,ix,rc,en⟩) ⟨Z5 (x:=⟨2,ix,rc,en⟩) w hk,vv w hk (by simp) (by omega),vv w hk (by simp) (by omega),vv w hk (by simp) (by omega),vv w hk (by simp) (by omega),rfl,rfl,rfl⟩
  exact⟨zaZ cfS,300,tQ _,zln,rfl,fin _ rfl,h⟩
def zlp (x:Nd):Prop:=x.wb∧x.lv≤2
def Q6:zf:=fun l K=>la1 l fun v=>XZ v fun x=>zlp x∧K (kBy 32 (nN x.dg))
theorem zeK:KCS Tryz.prog 55 Q6:=ztt (pre:=zlp) ⟨Tryz.f55,Tryz.func55,by kernel_rfl,by kernel_rfl⟩ (fun v f h=>wP h) (fun x=>rfl) fun x w hp=>by
 obtain⟨hb,hl⟩:=hp
 have fin:∀ L,x.dg=L→∀ r,byQ 32 L r→Imp r.v (kBy 32 (nN x.dg)).v:=fun L h r hr=>by rw[h]; exact zlj hr
 obtain⟨lv,ix,rc,en⟩:=x
 match lv,hl with
 | 0,_ =>
  have h:zBe cfR ⟨0,ix,rc,en⟩ (jI cfR R32 R64 (qs S32 R32 R64 (z0 ⟨0,ix,rc,en⟩)) 185 4):=Eq.mpr (zGV cfR ⟨0,ix,rc,en⟩) ⟨rfl,rfl⟩
  refine⟨E55 cfR,300,byQ 32 _,zyy,rfl,fin _ ?_,h⟩
  rw[zeE (x:=z0 ⟨0,ix,rc,en⟩) hb,zcE (by omega) (zeG (x:=z0 ⟨0,ix,rc,en⟩) hb)]
  rfl
 | 1,_ =>
  have h:zvw cfR 0 ⟨1,ix,rc,en⟩ (jI cfR R32 R64 (jx S32 (s1 0 ⟨1,ix,rc,en⟩)) 137 3):=Eq.mpr (zBf cfR 0 ⟨1,ix,rc,en⟩) ⟨rfl,rfl⟩
  refine⟨E55 cfR,300,byQ 32 _,zyy,rfl,fin _ ?_,h⟩
  rw[Yy (x:=s1 0 ⟨1,ix,rc,en⟩) hb,zcE (by omega) (YB (x:=s1 0 ⟨1,ix,rc,en⟩) hb)]
  rfl
 | 2,_ =>
  have h:zvw cfR 1 ⟨2,ix,rc,en⟩ (jI cfR R32 R64 (jx S32 (s1 1 ⟨2,ix,rc,en⟩)) 137 3):=Eq.mpr (zBf cfR 1 ⟨2,ix,rc,en⟩) ⟨rfl,rfl⟩
  refine⟨E55 cfR,300,byQ 32 _,zyy,rfl,fin _ ?_,h⟩
  rw[Yy (x:=s1 1 ⟨2,ix,rc,en⟩) hb,zcE (by omega) (YB (x:=s1 1 ⟨2,ix,rc,en⟩) hb)]
  rfl
end
end Go.K
set_option maxRecDepth 100000
namespace Go.K
open Go.Ab Go.RowKit Go.Y Go.Proofs
noncomputable section
attribute [local instance 10000] gO
noncomputable def cOf (n:Nat):Code:=match Tryz.prog.funcs[n]? with
 | some fn=>match fn.body with
  | some c=>c
  | none=>.skip
 | none=>.skip
noncomputable def rOf (n:Nat):List ResultVar:=match Tryz.prog.funcs[n]? with
 | some fn=>fn.results.toList
 | none=>[]
noncomputable def mOf (n:Nat):Nat:=zeM.getD n 0
abbrev QT:=Exit→List KV→List (Option KBlk)→Nat→Prop
abbrev RT:=KV→List (Option KBlk)→Nat→Prop
noncomputable def bx (t:Nat) (s:Shape) (v:KV):KBlk:=⟨.box t,s,v⟩
noncomputable def pc (E:KEnv) (f:Nat) (l:List Code) (lt li:List Nat) (s:LS) (Q:QT) (R:RT):Prop:=kpre E 60 (mOf f) l (vo s.1) (vO s.2.1) s.2.2 0 (zfh Tryz.prog (rOf f) lt li Q R)
noncomputable def xy:Shape:=.cons .sc (.cons (.cons .sc (.cons .sc .nl)) (.cons (.arr 32 .sc) .nl))
noncomputable def zo3:Shape:=.cons .sc (.cons (.arr 32 .sc) .nl)
noncomputable def zHo:Shape:=.cons .sc (.cons .sc (.cons (.arr 4 xy) (.cons (.arr 4 zo3) .nl)))
noncomputable def zfA:Shape:=.cons zHo (.cons .sc (.cons .sc (.cons (.arr 4 .sc) .nl)))
noncomputable def zv3:Shape:=.cons .sc (.cons .sc .nl)
structure Un where
 nd:Nd
 sl:Int
 di:Bool
 ch:Nat→Bool
noncomputable def Un.k (x:Un):KV:=.cons x.nd.k (.cons (.int .i64 x.sl) (.cons (.bool x.di) (.cons (kAr 4 (.bool false) fun i=>.bool (x.ch i)) .nl)))
noncomputable def trK (n m:Nat) (c:Nat→Un):KV:=.cons (nI n) (.cons (.ro true false zfA 0 m (.fa m fun i=>(c i).k)) .nl)
noncomputable def zh (n l j:Nat):Nat:=@Nat.rec (fun _=>Nat) j (fun k ih=>Nat.add ih (zx n k)) l
noncomputable def zo4:zf:=fun l K=>on3 l fun n l j=>(zD n=true∧l≤2∧j < 4294967296)∧K (nI (zh n l j))
noncomputable def zv4:zf:=fun l K=>on3 l fun n l i=>(zD n=true∧isS n l i=true)∧K (nI (zq n l i))
noncomputable def vD:KEnv:=EO0.tab [(82,zo4),(58,zo8),(117,zv4),(55,Q6)]
noncomputable def jy:List Code:=fl (cOf 110)
noncomputable def ziD:Code:=lpB (blB (jy.getD 7 .skip))
noncomputable def ziE:Code:=lpB (blB (jy.getD 10 .skip))
noncomputable def XS:Code:=lpB (blB (jy.getD 14 .skip))
noncomputable def ZU:Code:=blB ((fl XS).getD 2 .skip)
noncomputable def ziF:Code:=lpB (blB ((fl ZU).getD 4 .skip))
abbrev zl:=KV→Prop
noncomputable def zTr (n m:Nat) (c:Nat→Un):KBlk:=bx 37 zv3 (trK n m c)
noncomputable def zUn (y:Un):KBlk:=bx 105 zfA y.k
noncomputable def pT:KV:=.ptr 0 [] zv3
noncomputable def pU:KV:=.ptr 1 [] zfA
noncomputable def vB (n l j w:Nat) (d:Bool):List KV:=[nI l,nI j,pT,nI n,pU,.bool d,nI w]
noncomputable def sB (n m:Nat) (c:Nat→Un) (y:Un) (l j w:Nat) (d:Bool):LS:=([(1,nI l),(2,nI j),(3,pT),(7,nI n),(8,pU),(9,.bool d),(10,nI w)],[(0,zTr n m c),(1,zUn y)],2)
noncomputable def zB2 (n m:Nat) (c:Nat→Un) (y:Un):List (Option KBlk):=[some (zTr n m c),some (zUn y)]
noncomputable def eqN (a b:Nat):Bool:=eqI (.ofNat a) (.ofNat b)
noncomputable def pB (n m:Nat) (c:Nat→Un) (y:Un) (l j w:Nat) (d:Bool) (Q:QT) (R:zl):Prop:=pc vD 110 (fl ziD) [1,2,3,7,8,9,10] [0,1] (sB n m c y l j w d) Q fun v _ _=>R v
noncomputable def fBn (n m:Nat) (c:Nat→Un) (y:Un) (l j w:Nat) (d:Bool) (Q:QT) (R:zl) (bad:Prop→Prop):Prop :=
 alt (y.ch w) (bad (Q .normal (vB n l j (Nat.succ w) (@Bool.rec (fun _=>Bool) (y.ch w) true d)) (zB2 n m c y) 2)) (Q .normal (vB n l j (Nat.succ w) (@Bool.rec (fun _=>Bool) (y.ch w) true d)) (zB2 n m c y) 2)
noncomputable def wR (y:Un) (l w:Nat) (R:zl) (q:Prop):Prop:=@Nat.rec (fun _=>Prop) (alt (eZ (y.nd.rc w).st) (R (nI 9)) q) (fun _ _=>R (nI 9)) l
theorem zwp (n m:Nat) (c:Nat→Un) (y:Un) (l j:Nat) (Q:QT) (R:zl):pB n m c y 0 j 0 false Q R=fBn n m c y 0 j 0 false Q R (wR y 0 0 R):=by kernel_rfl
theorem zwq (n m:Nat) (c:Nat→Un) (y:Un) (l j:Nat) (Q:QT) (R:zl):pB n m c y 0 j 0 true Q R=fBn n m c y 0 j 0 true Q R (wR y 0 0 R):=by kernel_rfl
theorem zwr (n m:Nat) (c:Nat→Un) (y:Un) (l j:Nat) (Q:QT) (R:zl):pB n m c y (Nat.succ l) j 0 false Q R=fBn n m c y (Nat.succ l) j 0 false Q R (wR y (Nat.succ l) 0 R):=by kernel_rfl
theorem zws (n m:Nat) (c:Nat→Un) (y:Un) (l j:Nat) (Q:QT) (R:zl):pB n m c y (Nat.succ l) j 0 true Q R=fBn n m c y (Nat.succ l) j 0 true Q R (wR y (Nat.succ l) 0 R):=by kernel_rfl
theorem zwt (n m:Nat) (c:Nat→Un) (y:Un) (l j:Nat) (Q:QT) (R:zl):pB n m c y 0 j 1 false Q R=fBn n m c y 0 j 1 false Q R (wR y 0 1 R):=by kernel_rfl
theorem zwu (n m:Nat) (c:Nat→Un) (y:Un) (l j:Nat) (Q:QT) (R:zl):pB n m c y 0 j 1 true Q R=fBn n m c y 0 j 1 true Q R (wR y 0 1 R):=by kernel_rfl
theorem zwv (n m:Nat) (c:Nat→Un) (y:Un) (l j:Nat) (Q:QT) (R:zl):pB n m c y (Nat.succ l) j 1 false Q R=fBn n m c y (Nat.succ l) j 1 false Q R (wR y (Nat.succ l) 1 R):=by kernel_rfl
theorem zww (n m:Nat) (c:Nat→Un) (y:Un) (l j:Nat) (Q:QT) (R:zl):pB n m c y (Nat.succ l) j 1 true Q R=fBn n m c y (Nat.succ l) j 1 true Q R (wR y (Nat.succ l) 1 R):=by kernel_rfl
theorem zwx (n m:Nat) (c:Nat→Un) (y:Un) (l j:Nat) (Q:QT) (R:zl):pB n m c y 0 j 2 false Q R=fBn n m c y 0 j 2 false Q R (wR y 0 2 R):=by kernel_rfl
theorem zwy (n m:Nat) (c:Nat→Un) (y:Un) (l j:Nat) (Q:QT) (R:zl):pB n m c y 0 j 2 true Q R=fBn n m c y 0 j 2 true Q R (wR y 0 2 R):=by kernel_rfl
theorem zwz (n m:Nat) (c:Nat→Un) (y:Un) (l j:Nat) (Q:QT) (R:zl):pB n m c y (Nat.succ l) j 2 false Q R=fBn n m c y (Nat.succ l) j 2 false Q R (wR y (Nat.succ l) 2 R):=by kernel_rfl
theorem zwA (n m:Nat) (c:Nat→Un) (y:Un) (l j:Nat) (Q:QT) (R:zl):pB n m c y (Nat.succ l) j 2 true Q R=fBn n m c y (Nat.succ l) j 2 true Q R (wR y (Nat.succ l) 2 R):=by kernel_rfl
theorem zwB (n m:Nat) (c:Nat→Un) (y:Un) (l j:Nat) (Q:QT) (R:zl):pB n m c y 0 j 3 false Q R=fBn n m c y 0 j 3 false Q R (wR y 0 3 R):=by kernel_rfl
theorem zwC (n m:Nat) (c:Nat→Un) (y:Un) (l j:Nat) (Q:QT) (R:zl):pB n m c y 0 j 3 true Q R=fBn n m c y 0 j 3 true Q R (wR y 0 3 R):=by kernel_rfl
theorem zwD (n m:Nat) (c:Nat→Un) (y:Un) (l j:Nat) (Q:QT) (R:zl):pB n m c y (Nat.succ l) j 3 false Q R=fBn n m c y (Nat.succ l) j 3 false Q R (wR y (Nat.succ l) 3 R):=by kernel_rfl
theorem zwE (n m:Nat) (c:Nat→Un) (y:Un) (l j:Nat) (Q:QT) (R:zl):pB n m c y (Nat.succ l) j 3 true Q R=fBn n m c y (Nat.succ l) j 3 true Q R (wR y (Nat.succ l) 3 R):=by kernel_rfl
theorem eB {n m:Nat}{c:Nat→Un}{y:Un}{l j w:Nat}{d:Bool}{Q:QT}{R:zl}(hw:w < 4):pB n m c y l j w d Q R=fBn n m c y l j w d Q R (wR y l w R):=by
 match w,hw,l,d with
 | 0,_,0,false=>exact zwp n m c y 0 j Q R
 | 0,_,0,true=>exact zwq n m c y 0 j Q R
 | 0,_,l + 1,false=>exact zwr n m c y l j Q R
 | 0,_,l + 1,true=>exact zws n m c y l j Q R
 | 1,_,0,false=>exact zwt n m c y 0 j Q R
 | 1,_,0,true=>exact zwu n m c y 0 j Q R
 | 1,_,l + 1,false=>exact zwv n m c y l j Q R
 | 1,_,l + 1,true=>exact zww n m c y l j Q R
 | 2,_,0,false=>exact zwx n m c y 0 j Q R
 | 2,_,0,true=>exact zwy n m c y 0 j Q R
 | 2,_,l + 1,false=>exact zwz n m c y l j Q R
 | 2,_,l + 1,true=>exact zwA n m c y l j Q R
 | 3,_,0,false=>exact zwB n m c y 0 j Q R
 | 3,_,0,true=>exact zwC n m c y 0 j Q R
 | 3,_,l + 1,false=>exact zwD n m c y l j Q R
 | 3,_,l + 1,true=>exact zwE n m c y l j Q R
theorem eB4 (n m:Nat) (c:Nat→Un) (y:Un) (l j:Nat) (d:Bool) (Q:QT) (R:zl):pB n m c y l j 4 d Q R=Q (.exit 0) (vB n l j 4 d) (zB2 n m c y) 2:=by kernel_rfl
noncomputable def vC (n l j p w:Nat) (d:Bool):List KV:=[nI l,nI j,pT,nI n,pU,.bool d,nI p,nI w]
noncomputable def sC (n m:Nat) (c:Nat→Un) (y:Un) (l j p w:Nat) (d:Bool):LS:=([(1,nI l),(2,nI j),(3,pT),(7,nI n),(8,pU),(9,.bool d),(11,nI p),(12,nI w)],[(0,zTr n m c),(1,zUn y)],2)
noncomputable def pC (n m:Nat) (c:Nat→Un) (y:Un) (l j:Nat) (d:Bool) (Q:QT) (R:zl):Prop:=pc vD 110 ((jy.drop 8).take 2) [1,2,3,7,8,9,11,12] [0,1] (sB n m c y l j 4 d) Q fun v _ _=>R v
theorem eC (n m:Nat) (c:Nat→Un) (y:Un) (l j:Nat) (d:Bool) (Q:QT) (R:zl):pC n m c y l j d Q R=((zD n=true∧isS n l j=true)∧Q .normal (vC n l j (zq n l j) 0 d) (zB2 n m c y) 2):=by kernel_rfl
noncomputable def pD (n m:Nat) (c:Nat→Un) (y:Un) (l j p w:Nat) (d:Bool) (Q:QT) (R:zl):Prop:=pc vD 110 (fl ziE) [1,2,3,7,8,9,11,12] [0,1] (sC n m c y l j p w d) Q fun v _ _=>R v
noncomputable def ltN (a b:Nat):Bool:=ltI (.ofNat a) (.ofNat b)
theorem eD0 (n m:Nat) (c:Nat→Un) (y:Un) (j p w:Nat) (d:Bool) (Q:QT) (R:zl):pD n m c y 0 j p w d Q R=alt (ltN w p) (Q (.exit 2) (vC n 0 j p w d) (zB2 n m c y) 2) (Q (.exit 2) (vC n 0 j p w d) (zB2 n m c y) 2):=by kernel_rfl
noncomputable def j4 (j w:Nat):Nat:=Nat.add (Nat.mul 4 j) w
theorem eDt (n m:Nat) (c:Nat→Un) (y:Un) (l j p w:Nat) (Q:QT) (R:zl):pD n m c y (Nat.succ l) j p w true Q R=alt (ltN w p) (cnd (b63 (Nat.add w 1)) (Q .normal (vC n (Nat.succ l) j p (Nat.add w 1) true) (zB2 n m c y) 2)) (Q (.exit 2) (vC n (Nat.succ l) j p w true) (zB2 n m c y) 2):=by kernel_rfl
theorem eDf (n m:Nat) (c:Nat→Un) (y:Un) (l j p w:Nat) (Q:QT) (R:zl):pD n m c y (Nat.succ l) j p w false Q R=alt (ltN w p) (cnd (b63 (Nat.sub (Nat.succ l) 1)) (cnd (b63 (Nat.mul 4 j)) (cnd (b63 (j4 j w)) ((zD n=true∧l≤2∧j4 j w < 4294967296)∧cnd (ixB (.ofNat (zh n l (j4 j w))) m) (cnd (b63 (Nat.add w 1)) (Q .normal (vC n (Nat.succ l) j p (Nat.add w 1) (c (Nat.add 0 (zh n l (j4 j w)))).di) (zB2 n m c y) 2)))))) (Q (.exit 2) (vC n (Nat.succ l) j p w false) (zB2 n m c y) 2):=by kernel_rfl
noncomputable def vF (n l j p w:Nat):List KV:=[nI l,nI j,pT,nI n,pU,nI p,nI w]
noncomputable def tF (n l j p w:Nat):List (Nat×KV):=[(1,nI l),(2,nI j),(3,pT),(7,nI n),(8,pU),(11,nI p),(13,nI w)]
noncomputable def sF (n m:Nat) (c:Nat→Un) (y:Un) (l j p w:Nat):LS:=(tF n l j p w,[(0,zTr n m c),(1,zUn y)],2)
noncomputable def pE (n m:Nat) (c:Nat→Un) (y:Un) (l j p w:Nat) (d:Bool) (Q:QT) (R:zl):Prop:=pc vD 110 ((jy.drop 11).take 3) [1,2,3,7,8,11,13] [0,1] (sC n m c y l j p w d) Q fun v _ _=>R v
theorem eE (n m:Nat) (c:Nat→Un) (y:Un) (l j p w:Nat) (d:Bool) (Q:QT) (R:zl):pE n m c y l j p w d Q R=alt (!ZN y.di d) (R (nI 9)) (Q .normal (vF n l j p 0) (zB2 n m c y) 2):=by kernel_rfl
noncomputable def pF (n m:Nat) (c:Nat→Un) (y:Un) (l j p w:Nat) (Q:QT) (R:zl):Prop:=pc vD 110 ((fl XS).take 2) [1,2,3,7,8,11,13] [0,1] (sF n m c y l j p w) Q fun v _ _=>R v
theorem eF0 (n m:Nat) (c:Nat→Un) (y:Un) (j p w:Nat) (Q:QT) (R:zl):pF n m c y 0 j p w Q R=alt (ltN w p) (Q (.exit 4) (vF n 0 j p w) (zB2 n m c y) 2) (Q (.exit 4) (vF n 0 j p w) (zB2 n m c y) 2):=by kernel_rfl
theorem eFs (n m:Nat) (c:Nat→Un) (y:Un) (l j p w:Nat) (Q:QT) (R:zl):pF n m c y (Nat.succ l) j p w Q R=alt (ltN w p) (Q .normal (vF n (Nat.succ l) j p w) (zB2 n m c y) 2) (Q (.exit 4) (vF n (Nat.succ l) j p w) (zB2 n m c y) 2):=by kernel_rfl
noncomputable def pV:KV:=.ptr 2 [] zfA
noncomputable def pW:KV:=.ptr 3 [] zo3
noncomputable def vG (n l j p w:Nat) (u:Bool) (i:Nat):List KV:=[nI l,nI j,pT,nI n,pU,nI p,nI w,pV,pW,.bool u,nI i]
noncomputable def sG (n m:Nat) (c:Nat→Un) (y z:Un) (l j p w:Nat) (u:Bool) (i:Nat):LS:=(tF n l j p w++[(14,pV),(15,pW),(16,.bool u),(17,nI i)],[(0,zTr n m c),(1,zUn y),(2,zUn z),(3,bx 99 zo3 enZ)],4)
noncomputable def zG (n m:Nat) (c:Nat→Un) (y z:Un):List (Option KBlk):=[some (zTr n m c),some (zUn y),some (zUn z),some (bx 99 zo3 enZ)]
noncomputable def pG (n m:Nat) (c:Nat→Un) (y:Un) (l j p w:Nat) (Q:QT) (R:zl):Prop:=pc vD 110 ((fl ZU).take 4) [1,2,3,7,8,11,13,14,15,16,17] [0,1,2,3] (sF n m c y l j p w) Q fun v _ _=>R v
theorem eG (n m:Nat) (c:Nat→Un) (y:Un) (l j p w:Nat) (Q:QT) (R:zl):pG n m c y (Nat.succ l) j p w Q R=cnd (b63 (Nat.sub (Nat.succ l) 1)) (cnd (b63 (Nat.mul 4 j)) (cnd (b63 (j4 j w)) ((zD n=true∧l≤2∧j4 j w < 4294967296)∧cnd (ixB (.ofNat (zh n l (j4 j w))) m) (Q .normal (vG n (Nat.succ l) j p w false 0) (zG n m c y (c (Nat.add 0 (zh n l (j4 j w))))) 4)))):=by kernel_rfl
noncomputable def gtZ (a:Nat):Bool:=ltI (.ofNat 0) (.ofNat a)
noncomputable def pH (n m:Nat) (c:Nat→Un) (y z:Un) (l j p w:Nat) (u:Bool) (i:Nat) (Q:QT) (R:zl):Prop:=pc vD 110 (fl ziF) [1,2,3,7,8,11,13,14,15,16,17] [0,1,2,3] (sG n m c y z l j p w u i) Q fun v _ _=>R v
noncomputable def fHx (n m:Nat) (c:Nat→Un) (y z:Un) (l j p w i:Nat) (u:Bool) (Q:QT):Prop:=@Bool.rec (fun _=>Prop) (alt (gtZ (z.nd.rc i).st) (Q .normal (vG n l j p w true (Nat.succ i)) (zG n m c y z) 4) (Q .normal (vG n l j p w (gtZ (z.nd.en i).st) (Nat.succ i)) (zG n m c y z) 4)) (Q .normal (vG n l j p w true (Nat.succ i)) (zG n m c y z) 4) u
theorem zCw (n m:Nat) (c:Nat→Un) (y z:Un) (l j p w:Nat) (Q:QT) (R:zl):pH n m c y z l j p w false 0 Q R=fHx n m c y z l j p w 0 false Q:=by kernel_rfl
theorem zCx (n m:Nat) (c:Nat→Un) (y z:Un) (l j p w:Nat) (Q:QT) (R:zl):pH n m c y z l j p w true 0 Q R=fHx n m c y z l j p w 0 true Q:=by kernel_rfl
theorem zCy (n m:Nat) (c:Nat→Un) (y z:Un) (l j p w:Nat) (Q:QT) (R:zl):pH n m c y z l j p w false 1 Q R=fHx n m c y z l j p w 1 false Q:=by kernel_rfl
theorem zCz (n m:Nat) (c:Nat→Un) (y z:Un) (l j p w:Nat) (Q:QT) (R:zl):pH n m c y z l j p w true 1 Q R=fHx n m c y z l j p w 1 true Q:=by kernel_rfl
theorem zCA (n m:Nat) (c:Nat→Un) (y z:Un) (l j p w:Nat) (Q:QT) (R:zl):pH n m c y z l j p w false 2 Q R=fHx n m c y z l j p w 2 false Q:=by kernel_rfl
theorem zCB (n m:Nat) (c:Nat→Un) (y z:Un) (l j p w:Nat) (Q:QT) (R:zl):pH n m c y z l j p w true 2 Q R=fHx n m c y z l j p w 2 true Q:=by kernel_rfl
theorem zCC (n m:Nat) (c:Nat→Un) (y z:Un) (l j p w:Nat) (Q:QT) (R:zl):pH n m c y z l j p w false 3 Q R=fHx n m c y z l j p w 3 false Q:=by kernel_rfl
theorem zCD (n m:Nat) (c:Nat→Un) (y z:Un) (l j p w:Nat) (Q:QT) (R:zl):pH n m c y z l j p w true 3 Q R=fHx n m c y z l j p w 3 true Q:=by kernel_rfl
theorem eH {n m:Nat}{c:Nat→Un}{y z:Un}{l j p w i:Nat}{u:Bool}{Q:QT}{R:zl}(hi:i < 4):pH n m c y z l j p w u i Q R=fHx n m c y z l j p w i u Q:=by
 match i,hi,u with
 | 0,_,false=>exact zCw n m c y z l j p w Q R
 | 0,_,true=>exact zCx n m c y z l j p w Q R
 | 1,_,false=>exact zCy n m c y z l j p w Q R
 | 1,_,true=>exact zCz n m c y z l j p w Q R
 | 2,_,false=>exact zCA n m c y z l j p w Q R
 | 2,_,true=>exact zCB n m c y z l j p w Q R
 | 3,_,false=>exact zCC n m c y z l j p w Q R
 | 3,_,true=>exact zCD n m c y z l j p w Q R
theorem eH4 (n m:Nat) (c:Nat→Un) (y z:Un) (l j p w:Nat) (u:Bool) (Q:QT) (R:zl):pH n m c y z l j p w u 4 Q R=Q (.exit 6) (vG n l j p w u 4) (zG n m c y z) 4:=by kernel_rfl
noncomputable def eqB (n:Nat) (f g:Nat→Nat):Bool:=@Nat.rec (fun _=>Bool) true (fun i ih=>nd ih (eqN (f i) (g i))) n
noncomputable def En.eqb (a b:En):Bool:=nd (eqN a.st b.st) (nd (eqB 32 (nN a.dg) (nN b.dg)) true)
noncomputable def pI (n m:Nat) (c:Nat→Un) (y z:Un) (l j p w:Nat) (u:Bool) (Q:QT) (R:zl):Prop:=pc vD 110 ((fl ZU).drop 5) [1,2,3,7,8,11,13] [0,1] (sG n m c y z l j p w u 4) Q fun v _ _=>R v
noncomputable def Un.w (z:Un) (s:Int) (d:Bool):Un:=⟨z.nd,s,d,z.ch⟩
noncomputable def fIx (n m:Nat) (c:Nat→Un) (y z:Un) (l j p w:Nat) (st:Nat) (Q:QT) (R:zl):Prop:=zlp z.nd.nf∧alt (!(y.nd.en w).eqb ⟨st,z.nd.nf.dg⟩) (R (nI 9)) (Q .normal (vF n l j p w) (zB2 n m c y) 4)
theorem zHx (n m:Nat) (c:Nat→Un) (y z:Un) (l j p:Nat) (Q:QT) (R:zl):pI n m c y z l j p 0 false Q R=alt (!(y.nd.en 0).zb) (R (nI 9)) (Q .normal (vF n l j p 0) (zB2 n m c y) 4):=by kernel_rfl
theorem zwF (n m:Nat) (c:Nat→Un) (y z:Un) (l j p:Nat) (Q:QT) (R:zl):pI n m c y (z.w 0 false) l j p 0 true Q R=fIx n m c y z l j p 0 1 Q R:=by kernel_rfl
theorem zwG (n m:Nat) (c:Nat→Un) (y z:Un) (l j p:Nat) (Q:QT) (R:zl):pI n m c y (z.w 0 true) l j p 0 true Q R=fIx n m c y z l j p 0 2 Q R:=by kernel_rfl
theorem zwH (n m:Nat) (c:Nat→Un) (y z:Un) (l j p:Nat) (Q:QT) (R:zl):pI n m c y (z.w 1 false) l j p 0 true Q R=fIx n m c y z l j p 0 2 Q R:=by kernel_rfl
theorem zwI (n m:Nat) (c:Nat→Un) (y z:Un) (l j p:Nat) (Q:QT) (R:zl):pI n m c y (z.w 1 true) l j p 0 true Q R=fIx n m c y z l j p 0 1 Q R:=by kernel_rfl
theorem zHy (n m:Nat) (c:Nat→Un) (y z:Un) (l j p:Nat) (Q:QT) (R:zl):pI n m c y z l j p 1 false Q R=alt (!(y.nd.en 1).zb) (R (nI 9)) (Q .normal (vF n l j p 1) (zB2 n m c y) 4):=by kernel_rfl
theorem zwJ (n m:Nat) (c:Nat→Un) (y z:Un) (l j p:Nat) (Q:QT) (R:zl):pI n m c y (z.w 0 false) l j p 1 true Q R=fIx n m c y z l j p 1 1 Q R:=by kernel_rfl
theorem zwK (n m:Nat) (c:Nat→Un) (y z:Un) (l j p:Nat) (Q:QT) (R:zl):pI n m c y (z.w 0 true) l j p 1 true Q R=fIx n m c y z l j p 1 2 Q R:=by kernel_rfl
theorem zwL (n m:Nat) (c:Nat→Un) (y z:Un) (l j p:Nat) (Q:QT) (R:zl):pI n m c y (z.w 1 false) l j p 1 true Q R=fIx n m c y z l j p 1 2 Q R:=by kernel_rfl
theorem zwM (n m:Nat) (c:Nat→Un) (y z:Un) (l j p:Nat) (Q:QT) (R:zl):pI n m c y (z.w 1 true) l j p 1 true Q R=fIx n m c y z l j p 1 1 Q R:=by kernel_rfl
theorem zHz (n m:Nat) (c:Nat→Un) (y z:Un) (l j p:Nat) (Q:QT) (R:zl):pI n m c y z l j p 2 false Q R=alt (!(y.nd.en 2).zb) (R (nI 9)) (Q .normal (vF n l j p 2) (zB2 n m c y) 4):=by kernel_rfl
theorem zwN (n m:Nat) (c:Nat→Un) (y z:Un) (l j p:Nat) (Q:QT) (R:zl):pI n m c y (z.w 0 false) l j p 2 true Q R=fIx n m c y z l j p 2 1 Q R:=by kernel_rfl
theorem zwO (n m:Nat) (c:Nat→Un) (y z:Un) (l j p:Nat) (Q:QT) (R:zl):pI n m c y (z.w 0 true) l j p 2 true Q R=fIx n m c y z l j p 2 2 Q R:=by kernel_rfl
theorem zwP (n m:Nat) (c:Nat→Un) (y z:Un) (l j p:Nat) (Q:QT) (R:zl):pI n m c y (z.w 1 false) l j p 2 true Q R=fIx n m c y z l j p 2 2 Q R:=by kernel_rfl
theorem zwQ (n m:Nat) (c:Nat→Un) (y z:Un) (l j p:Nat) (Q:QT) (R:zl):pI n m c y (z.w 1 true) l j p 2 true Q R=fIx n m c y z l j p 2 1 Q R:=by kernel_rfl
theorem zHA (n m:Nat) (c:Nat→Un) (y z:Un) (l j p:Nat) (Q:QT) (R:zl):pI n m c y z l j p 3 false Q R=alt (!(y.nd.en 3).zb) (R (nI 9)) (Q .normal (vF n l j p 3) (zB2 n m c y) 4):=by kernel_rfl
theorem zwR (n m:Nat) (c:Nat→Un) (y z:Un) (l j p:Nat) (Q:QT) (R:zl):pI n m c y (z.w 0 false) l j p 3 true Q R=fIx n m c y z l j p 3 1 Q R:=by kernel_rfl
theorem zwS (n m:Nat) (c:Nat→Un) (y z:Un) (l j p:Nat) (Q:QT) (R:zl):pI n m c y (z.w 0 true) l j p 3 true Q R=fIx n m c y z l j p 3 2 Q R:=by kernel_rfl
theorem zwT (n m:Nat) (c:Nat→Un) (y z:Un) (l j p:Nat) (Q:QT) (R:zl):pI n m c y (z.w 1 false) l j p 3 true Q R=fIx n m c y z l j p 3 2 Q R:=by kernel_rfl
theorem zwU (n m:Nat) (c:Nat→Un) (y z:Un) (l j p:Nat) (Q:QT) (R:zl):pI n m c y (z.w 1 true) l j p 3 true Q R=fIx n m c y z l j p 3 1 Q R:=by kernel_rfl
noncomputable def Un.stS (z:Un):Nat:=@Int.rec (fun _=>Nat) (fun a=>@Nat.rec (fun _=>Nat) (@Bool.rec (fun _=>Nat) 1 2 z.di) (fun _ _=>@Bool.rec (fun _=>Nat) 2 1 z.di) a) (fun _=>0) z.sl
theorem eI0 {n m:Nat}{c:Nat→Un}{y z:Un}{l j p w:Nat}{Q:QT}{R:zl}(hw:w < 4):pI n m c y z l j p w false Q R=alt (!(y.nd.en w).zb) (R (nI 9)) (Q .normal (vF n l j p w) (zB2 n m c y) 4):=by
 match w,hw with
 | 0,_=>exact zHx n m c y z l j p Q R
 | 1,_=>exact zHy n m c y z l j p Q R
 | 2,_=>exact zHz n m c y z l j p Q R
 | 3,_=>exact zHA n m c y z l j p Q R
theorem eI1 {n m:Nat}{c:Nat→Un}{y z:Un}{l j p w:Nat}{Q:QT}{R:zl}(hw:w < 4) (hz:z.sl=0∨z.sl=1):pI n m c y z l j p w true Q R=fIx n m c y z l j p w z.stS Q R:=by
 obtain⟨nd,sl,di,ch⟩:=z
 rcases (show sl=0∨sl=1 from hz) with rfl | rfl
 ·match w,hw,di with
  | 0,_,false=>exact zwF n m c y ⟨nd,0,false,ch⟩ l j p Q R
  | 0,_,true=>exact zwG n m c y ⟨nd,0,true,ch⟩ l j p Q R
  | 1,_,false=>exact zwJ n m c y ⟨nd,0,false,ch⟩ l j p Q R
  | 1,_,true=>exact zwK n m c y ⟨nd,0,true,ch⟩ l j p Q R
  | 2,_,false=>exact zwN n m c y ⟨nd,0,false,ch⟩ l j p Q R
  | 2,_,true=>exact zwO n m c y ⟨nd,0,true,ch⟩ l j p Q R
  | 3,_,false=>exact zwR n m c y ⟨nd,0,false,ch⟩ l j p Q R
  | 3,_,true=>exact zwS n m c y ⟨nd,0,true,ch⟩ l j p Q R
 ·match w,hw,di with
  | 0,_,false=>exact zwH n m c y ⟨nd,1,false,ch⟩ l j p Q R
  | 0,_,true=>exact zwI n m c y ⟨nd,1,true,ch⟩ l j p Q R
  | 1,_,false=>exact zwL n m c y ⟨nd,1,false,ch⟩ l j p Q R
  | 1,_,true=>exact zwM n m c y ⟨nd,1,true,ch⟩ l j p Q R
  | 2,_,false=>exact zwP n m c y ⟨nd,1,false,ch⟩ l j p Q R
  | 2,_,true=>exact zwQ n m c y ⟨nd,1,true,ch⟩ l j p Q R
  | 3,_,false=>exact zwT n m c y ⟨nd,1,false,ch⟩ l j p Q R
  | 3,_,true=>exact zwU n m c y ⟨nd,1,true,ch⟩ l j p Q R
noncomputable def pJ (n m:Nat) (c:Nat→Un) (y:Un) (l j p w:Nat) (Q:QT) (R:zl):Prop:=pc vD 110 ((fl XS).drop 3) [1,2,3,7,8,11,13] [0,1] (sF n m c y l j p w) Q fun v _ _=>R v
theorem eJ (n m:Nat) (c:Nat→Un) (y:Un) (l j p w:Nat) (Q:QT) (R:zl):pJ n m c y l j p w Q R=cnd (b63 (Nat.add w 1)) (Q .normal (vF n l j p (Nat.add w 1)) (zB2 n m c y) 2):=by kernel_rfl
noncomputable def pL (n m:Nat) (c:Nat→Un) (y:Un) (l j p w:Nat) (Q:QT) (R:zl):Prop:=pc vD 110 (jy.drop 15) [] [] (sF n m c y l j p w) Q fun v _ _=>R v
theorem eL (n m:Nat) (c:Nat→Un) (y:Un) (l j p w:Nat) (Q:QT) (R:zl):pL n m c y l j p w Q R=R (nI 0):=by kernel_rfl
end
end Go.K
