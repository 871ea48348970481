/- caissonref18.node: the pieces. No condition. -/
import Derived.Test.YtkllahedaiddgaaGreatDoorNC
import Derived.Test.YtkllahedaiddgaaGreatDoorKSB
import Derived.Test.YtkllahedaiddgaaGreatDoorSEQ
import Derived.Test.YtkllahedaiddgaaGreatDoorK21
set_option linter.unusedSimpArgs false
set_option linter.unusedVariables false
set_option maxRecDepth 100000
namespace Go.K
open Go.Ab Go.RowKit Go.Y Go.Proofs
noncomputable section
theorem Wd {f:Nat→Nat}:∀ {n i:Nat},i < n→nN (lsF n f) i=f i:=by
 have h:∀(n s i:Nat),i < n→nN (@Nat.rec (fun _=>Nat→List Nat) (fun _=>[]) (fun _ ih i=>f i::ih (Nat.succ i)) n s) i=f (s + i):=by
  intro n
  induction n with
  | zero=>intro s i h; omega
  | succ n ih =>
   intro s i h
   cases i with
   | zero=>rfl
   | succ i =>
    show nN (@Nat.rec (fun _=>Nat→List Nat) (fun _=>[]) (fun _ ih i=>f i::ih (Nat.succ i)) n (Nat.succ s)) i=_
    rw[ih (Nat.succ s) i (by omega),show Nat.succ s + i=s + (i + 1) by omega]
 intro n i hi
 have:=h n 0 i hi
 rwa [Nat.zero_add] at this
theorem XB {f:Nat→Nat}(n:Nat):(lsF n f).length=n:=by
 have h:∀(n s:Nat),(@Nat.rec (fun _=>Nat→List Nat) (fun _=>[]) (fun _ ih i=>f i::ih (Nat.succ i)) n s).length=n:=by
  intro n
  induction n with
  | zero=>intro s; rfl
  | succ n ih=>intro s; show (_::_).length=_; rw[List.length_cons,ih]
 exact h n 0
theorem zda {f g:Nat→Nat}{n:Nat}(h:∀ i,i < n→f i=g i):lsF n f=lsF n g :=
 zbx (by rw[XB,XB]) fun i hi=>by
  rw[XB] at hi
  rw[Wd hi,Wd hi,h i hi]
theorem ZW {l:List Nat}{B:Nat}(hB:0 < B) (h:∀ x∈l,x < B):∀ i,nN l i < B:=by
 intro i
 induction l generalizing i with
 | nil=>exact hB
 | cons x l ih =>
  cases i with
  | zero=>exact h x List.mem_cons_self
  | succ i=>exact ih (fun y hy=>h y (List.mem_cons_of_mem _ hy)) i
theorem zkq {h h' b b':Nat→Nat}(h1:∀ i,i < 8→h i=h' i) (h2:∀ i,i < 64→b i=b' i) {j:Nat}(hj:j < 8):R.comp h b j=R.comp h' b' j:=by
 have e1:S.stOf h=S.stOf h':=by
  unfold S.stOf
  rw[h1 0 (by omega),h1 1 (by omega),h1 2 (by omega),h1 3 (by omega),h1 4 (by omega),h1 5 (by omega),h1 6 (by omega),h1 7 (by omega)]
 have e2:R.sched b=R.sched b':=by
  funext j
  unfold R.sched
  rw[SR.gL_congr (ld':=R.load32 b') (nw':=R.nextW) (fun t ht=>by
   rw[SR.l2,SR.l2,h2 _ (by omega),h2 _ (by omega),h2 _ (by omega),h2 _ (by omega)]) (fun _ _ _ _=>rfl) 64]
 unfold R.comp
 rw[h1 j hj,e1,e2]
def cfS:CP:=fun h b i=>S.comp (nN h) (nN b) i
def cfR:CP:=fun h b i=>R.comp (nN h) (nN b) i
theorem zkr (x:KV) (off:Nat):∀(n i:Nat),i < n→nN (lsO x off n) i=ntK x (off + i):=by
 have h:∀(n s i:Nat),i < n→nN (@Nat.rec (fun _=>Nat→List Nat) (fun _=>[]) (fun _ ih i=>ntK x i::ih (Nat.succ i)) n s) i=ntK x (s + i):=by
  intro n
  induction n with
  | zero=>intro s i h; omega
  | succ n ih =>
   intro s i h
   cases i with
   | zero=>rfl
   | succ i =>
    show nN (@Nat.rec (fun _=>Nat→List Nat) (fun _=>[]) (fun _ ih i=>ntK x i::ih (Nat.succ i)) n (Nat.succ s)) i=_
    rw[ih (Nat.succ s) i (by omega),show Nat.succ s + i=s + (i + 1) by omega]
 exact fun n i hi=>h n off i hi
theorem zks:KCS Tryz.prog 190 (zto cfR):=by
 have hc:=zdn
 refine⟨hc.1,fun l K hs=>?_⟩
 obtain⟨x,y,rfl,h1⟩:=zdf hs
 obtain⟨h2,h3⟩:=zf h1
 obtain⟨f,hf,hfa,hfi⟩:=zme h2
 rcases x7 h3 with ⟨u,cl,e,off,len,c,rfl,h7⟩ | ⟨_,h7⟩
 ·obtain⟨h8,h5⟩:=zf h7
  obtain⟨h10,h11⟩:=za.1 h8
  obtain⟨h12,h13⟩:=za.1 h11
  obtain rfl:=jG h10
  obtain rfl:=zx h12
  obtain⟨h14,h15⟩:=za.1 h13
  obtain⟨m,g,hv,hg⟩:=j1 h14
  have hga:qp .u8 64 (fun i=>g (off + i))=true:=List.all_eq_true.2 fun i hi=>by
   show Go.Y.isW .u8 (g (off + i))=true
   rw[hg (off + i)]
   exact zmd (Wf h15 i (List.mem_range.1 hi))
  have hro:(KV.ro u cl .sc off 64 c).v=.ro u cl .sc 64 fun i=>g (off + i):=by
   rw[Zd]
   congr 1
   funext i
   rw[hv]; rfl
  refine⟨_,h5,fun B μ nx mx l0 hl=>?_⟩
  have hcall:=xZ (B:=B) (μ:=μ) (nx:=nx) (mx:=mx) gnL hc rfl hl (by
   rw[qs,List.map_cons,List.map_cons,List.map_nil,hf,hro]
   show (qp .u32 8 f&&qp .u8 64 fun i=>g (off + i))=true
   rw[hfa,hga]; rfl)
  rw[qs,List.map_cons,List.map_cons,List.map_nil,hf,hro] at hcall
  refine hcall.imp ?_ (MImp.refl _) (Nat.le_refl _) (Nat.le_refl _)
  refine zdh fun i hi=>?_
  show wV .u32 (R.comp (fun i=>xP (f i)) (fun i=>xP (g (off + i))) i)=_
  rw[zkq (h':=nN (lsK x 8)) (b':=nN (lsO c off 64)) (fun i hi=>by rw[Wg x 8 i hi,hfi i]; rfl) (fun i hi=>by rw[zkr c off 64 i hi,hg (off + i)]; rfl) hi]
  rfl
 ·exact h7.elim
end
end Go.K
set_option maxRecDepth 100000
namespace Go.K
open Go.Ab Go.RowKit Go.Y Go.Proofs
noncomputable section
attribute [local instance 10000] gO
def Rc.wb (x:Rc):Prop:=x.st < 256∧x.sh < 4294967296∧x.ct < 18446744073709551616∧∀ b∈x.tg,b < 256
def En.wb (x:En):Prop:=x.st < 256∧∀ b∈x.dg,b < 256
def Nd.wb (x:Nd):Prop:=x.lv < 256∧x.ix < 4294967296∧(∀ i,i < 4→(x.rc i).wb)∧∀ i,i < 4→(x.en i).wb
theorem zk3 (a b:Nat):Nat.mod a b=a % b:=rfl
theorem zk4 (a b:Nat):Nat.div a b=a / b:=rfl
theorem zie {a:Nat}(h:a < 4294967296):R32 a=P32 a:=by
 unfold R32 P32 rr dd
 simp only[zk3,zk4]
 refine List.cons_eq_cons.2 ⟨by omega,List.cons_eq_cons.2 ⟨by omega,List.cons_eq_cons.2 ⟨by omega,List.cons_eq_cons.2 ⟨by omega,rfl⟩⟩⟩⟩
theorem zif {a:Nat}(h:a < 4294967296):S32 a=P32 a:=by
 unfold S32 P32
 simp only[zk3,zk4]
 refine List.cons_eq_cons.2 ⟨by omega,List.cons_eq_cons.2 ⟨by omega,List.cons_eq_cons.2 ⟨by omega,List.cons_eq_cons.2 ⟨by omega,rfl⟩⟩⟩⟩
theorem VO {a:Nat}(h:a < 18446744073709551616):dd a=a / 256:=by
 unfold dd
 simp only[zk3,zk4]; omega
theorem zig {a:Nat}(h:a < 18446744073709551616):R64 a=P64 a:=by
 have d1:dd a=a / 256:=VO h
 have d2:dd (dd a)=a / 65536:=by rw[d1,VO (by omega)]; omega
 have d3:dd (dd (dd a))=a / 16777216:=by rw[d2,VO (by omega)]; omega
 have d4:dd (dd (dd (dd a)))=a / 4294967296:=by rw[d3,VO (by omega)]; omega
 have d5:dd (dd (dd (dd (dd a))))=a / 1099511627776:=by rw[d4,VO (by omega)]; omega
 have d6:dd (dd (dd (dd (dd (dd a)))))=a / 281474976710656:=by rw[d5,VO (by omega)]; omega
 have d7:dd (dd (dd (dd (dd (dd (dd a))))))=a / 72057594037927936:=by rw[d6,VO (by omega)]; omega
 unfold R64 P64
 rw[d7,d6,d5,d4,d3,d2,d1]
 unfold rr
 simp only[zk3,zk4,Nat.mod_mod,Nat.div_one]
theorem Wx {x:Rc}(h:x.wb):rcL R32 R64 x=rcL P32 P64 x:=by
 unfold rcL; rw[zie h.2.1,zig h.2.2.1]
theorem zk5 {x:Nd}(h:x.wb):VE S32 R32 R64 x=VE P32 P32 P64 x:=by
 unfold VE
 rw[zif h.2.1,Wx (h.2.2.1 0 (by omega)),Wx (h.2.2.1 1 (by omega)),Wx (h.2.2.1 2 (by omega)),Wx (h.2.2.1 3 (by omega))]
theorem zdE {x:Nd}(h:x.wb):Xl S32 x=Xl P32 x:=by
 unfold Xl
 rw[zif h.2.1]
theorem vN {l m:List Nat}{B:Nat}(h1:∀ x∈l,x < B) (h2:∀ x∈m,x < B):∀ x∈apL l m,x < B:=by
 induction l with
 | nil=>exact h2
 | cons y l ih =>
  intro x hx
  rcases List.mem_cons.1 (show x∈y::apL l m from hx) with rfl | h
  ·exact h1 _ List.mem_cons_self
  ·exact ih (fun z hz=>h1 z (List.mem_cons_of_mem _ hz)) x h
theorem Wy {f:Nat→Nat}{B n:Nat}(h:∀ i,i < n→f i < B):∀ x∈lsF n f,x < B:=by
 intro x hx
 obtain⟨i,hi,rfl⟩:=List.getElem_of_mem hx
 have hi':i < n:=by rw[←XB (f:=f) n]; exact hi
 have e:nN (lsF n f) i=(lsF n f)[i]:=by
  have:∀(l:List Nat) (i:Nat) (h:i < l.length),nN l i=l[i]:=by
   intro l
   induction l with
   | nil=>intro i h; simp at h
   | cons y l ih=>intro i h; cases i with
    | zero=>rfl
    | succ i=>exact ih i (by simpa using h)
  exact this _ _ hi
 rw[←e,Wd hi']
 exact h i hi'
theorem Wz (a:Nat):∀ x∈P32 a,x < 256:=by
 intro x hx
 unfold P32 at hx
 simp only[List.mem_cons,List.not_mem_nil,or_false] at hx
 rcases hx with rfl | rfl | rfl | rfl<;>exact Nat.mod_lt _ (by omega)
theorem zdF (a:Nat):∀ x∈P64 a,x < 256:=by
 intro x hx
 unfold P64 at hx
 simp only[List.mem_cons,List.not_mem_nil,or_false] at hx
 rcases hx with rfl | rfl | rfl | rfl | rfl | rfl | rfl | rfl<;>exact Nat.mod_lt _ (by omega)
theorem Zq {l:List Nat}{a B:Nat}(h:a < B) (h2:∀ x∈l,x < B):∀ x∈a::l,x < B:=by
 intro x hx
 rcases List.mem_cons.1 hx with rfl | h3
 ·exact h
 ·exact h2 x h3
theorem WA {x:Rc}(h:x.wb):∀ b∈rcL P32 P64 x,b < 256 :=
 Zq h.1 (vN (Wz _) (vN (zdF _) (Wy fun i _=>ZW (by omega) h.2.2.2 i)))
theorem WB {x:En}(h:x.wb):∀ b∈enL x,b < 256:=Zq h.1 (Wy fun i _=>ZW (by omega) h.2 i)
theorem zk6 {x:Nd}(h:x.wb):∀ b∈VE P32 P32 P64 x,b < 256 :=
 Zq h.1 (vN (Wz _) (vN (WA (h.2.2.1 0 (by omega))) (vN (WA (h.2.2.1 1 (by omega))) (vN (WA (h.2.2.1 2 (by omega))) (WA (h.2.2.1 3 (by omega)))))))
theorem zdG {x:Nd}(h:x.wb):∀ b∈Xl P32 x,b < 256 :=
 Zq h.1 (vN (Wz _) (vN (WB (h.2.2.2 0 (by omega))) (vN (WB (h.2.2.2 1 (by omega))) (vN (WB (h.2.2.2 2 (by omega))) (WB (h.2.2.2 3 (by omega)))))))
theorem zql {m:List Nat}{L tot j:Nat}(h:∀ b∈m,b < 256):zg1 P64 m L tot j < 256:=by
 unfold zg1
 cases Nat.blt j L with
 | true=>exact ZW (by omega) h j
 | false =>
  cases Nat.beq j L with
  | true=>show 128 < 256; omega
  | false =>
   cases Nat.blt j (Nat.sub tot 8) with
   | true=>show 0 < 256; omega
   | false=>exact ZW (by omega) (zdF _) _
theorem zqm {m:List Nat}{L tot k:Nat}(hL:L < 2305843009213693952):zev R64 m L tot k=zev P64 m L tot k:=by
 unfold zev zg1
 rw[zig (a:=Nat.mul 8 L) (by show 8 * L < _; omega)]
theorem zvn {h b:List Nat}{i:Nat}(hb:∀ j,j < 64→nN b j < 256):cfR h b i=cfS h b i:=(SR.comp_eq hb i).symm
theorem zih (a b:Nat):S.add32 a b < 4294967296:=Nat.mod_lt _ (by omega)
theorem zvo (h b:List Nat) (i:Nat):cfS h b i < 4294967296:=by
 unfold cfS S.comp
 exact zih _ _
attribute [local irreducible] cfS cfR zg1 ZV
theorem stS (cp:CP) (p:Nat→List Nat) (m:List Nat) (L tot k:Nat):stL cp p m L tot (k + 1)=lsF 8 fun i=>cp (stL cp p m L tot k) (zev p m L tot k) i:=rfl
theorem zvp {m:List Nat}{L tot:Nat}(hL:L < 2305843009213693952) (h:∀ b∈m,b < 256) (k:Nat):stL cfR R64 m L tot k=stL cfS P64 m L tot k:=by
 induction k with
 | zero=>rfl
 | succ k ih =>
  rw[stS,stS,ih,zqm hL]
  refine zda fun i hi=>zvn fun j hj=>?_
  unfold zev
  rw[Wd hj]
  exact zql h
theorem zqn:∀ x∈ztn,x < 4294967296:=by decide
theorem zvq {p:Nat→List Nat}{m:List Nat}{L tot:Nat}(k i:Nat):nN (stL cfS p m L tot k) i < 4294967296:=by
 cases k with
 | zero=>exact ZW (by omega) zqn i
 | succ k =>
  rw[stS]
  exact ZW (by omega) (Wy fun i hi=>zvo _ _ _) i
theorem zby {m:List Nat}{L nb:Nat}(hL:L < 2305843009213693952) (h:∀ b∈m,b < 256):ZV cfR R32 R64 m L nb=ZV cfS P32 P64 m L nb:=by
 unfold ZV
 refine zda fun j hj=>?_
 rw[zvp hL h,zie (zvq _ _)]
def Nd.dg (x:Nd):List Nat:=@Nat.rec (fun _=>List Nat) (ZV cfS P32 P64 (VE P32 P32 P64 x) 185 4) (fun _ _=>ZV cfS P32 P64 (Xl P32 x) 137 3) x.lv
theorem zqo {n:Nat}{L:List Nat}{r:KV}(h:byQ n L r):Imp r.v (kBy n (nN L)).v:=by
 rw[←h.2]
 exact zmf h.1
attribute [local irreducible] zkx zky on4 in
theorem zqp:KOk (E55 cfR):=zR.tab ⟨zks.opn,trivial⟩
theorem zvr {α:Type}{fid:FuncId}(hf:zdC fid) {on:KV→(α→Prop)→Prop}{k:α→KV}{W:α→Prop}{sp:α→KV}{pre:α→Prop}
  (hon:∀ v f,on v f→∃ x,W x∧Imp v.v (k x).v∧f x) (hr:∀ x,xw (sp x).v=true)
  (h:∀ x,W x→pre x→∃(E:KEnv) (n:Nat) (Q:KV→Prop),KOk E∧E.P=Tryz.prog∧(∀ r,Q r→Imp r.v (sp x).v)∧zo E (zp E n) 0 fid [k x] .e 0 0 fun r _ _ _=>Q r):KCS Tryz.prog fid (fun l K=>la1 l fun v=>on v fun x=>pre x∧K (sp x)):=by
 refine zjJ hf fun l K hs=>?_
 obtain⟨v,rfl,h1⟩:=zcA hs
 obtain⟨x,w,hi,hp,hk⟩:=hon _ _ h1
 obtain⟨E,n,Q,hE,hP,hq,hc⟩:=h x w hp
 refine⟨E,hE,hP,n,Q,sp x,[k x],hk,hr x,hq,fun C m hm=>?_,hc⟩
 exact Imp.cons hi (Imp.refl _) C m hm
attribute [local irreducible] zo zp
def zqq (x:Nd):Prop:=x.wb∧x.lv≤2
def zmF:zk:=fun l K=>la1 l fun v=>zkz v fun x=>zqq x∧K (kBy 32 (nN x.dg))
theorem zvs:KCS Tryz.prog 55 zmF:=zvr (pre:=zqq) ⟨Tryz.f55,Tryz.func55,by kernel_rfl,by kernel_rfl⟩ (fun v f h=>zbf h) (fun x=>rfl) fun x w hp=>by
 obtain⟨hb,hl⟩:=hp
 have fin:∀ L,x.dg=L→∀ r,byQ 32 L r→Imp r.v (kBy 32 (nN x.dg)).v:=fun L h r hr=>by rw[h]; exact zqo hr
 obtain⟨lv,ix,rc,en⟩:=x
 match lv,hl with
 | 0,_ =>
  have h:ztp cfR ⟨0,ix,rc,en⟩ (ZV cfR R32 R64 (VE S32 R32 R64 (z0 ⟨0,ix,rc,en⟩)) 185 4):=Eq.mpr (zxd cfR ⟨0,ix,rc,en⟩) ⟨rfl,rfl⟩
  refine⟨E55 cfR,300,byQ 32 _,zqp,rfl,fin _ ?_,h⟩
  rw[zk5 (x:=z0 ⟨0,ix,rc,en⟩) hb,zby (by omega) (zk6 (x:=z0 ⟨0,ix,rc,en⟩) hb)]
  rfl
 | 1,_ =>
  have h:zoy cfR 0 ⟨1,ix,rc,en⟩ (ZV cfR R32 R64 (Xl S32 (s1 0 ⟨1,ix,rc,en⟩)) 137 3):=Eq.mpr (ztq cfR 0 ⟨1,ix,rc,en⟩) ⟨rfl,rfl⟩
  refine⟨E55 cfR,300,byQ 32 _,zqp,rfl,fin _ ?_,h⟩
  rw[zdE (x:=s1 0 ⟨1,ix,rc,en⟩) hb,zby (by omega) (zdG (x:=s1 0 ⟨1,ix,rc,en⟩) hb)]
  rfl
 | 2,_ =>
  have h:zoy cfR 1 ⟨2,ix,rc,en⟩ (ZV cfR R32 R64 (Xl S32 (s1 1 ⟨2,ix,rc,en⟩)) 137 3):=Eq.mpr (ztq cfR 1 ⟨2,ix,rc,en⟩) ⟨rfl,rfl⟩
  refine⟨E55 cfR,300,byQ 32 _,zqp,rfl,fin _ ?_,h⟩
  rw[zdE (x:=s1 1 ⟨2,ix,rc,en⟩) hb,zby (by omega) (zdG (x:=s1 1 ⟨2,ix,rc,en⟩) hb)]
  rfl
end
end Go.K
set_option maxRecDepth 100000
namespace Go.K
open Go.Ab Go.RowKit Go.Y Go.Proofs
noncomputable section
attribute [local instance 10000] gO
noncomputable def cOf (n:Nat):Code:=match Tryz.prog.funcs[n]? with
 | some fn=>match fn.body with
  | some c=>c
  | none=>.skip
 | none=>.skip
noncomputable def rOf (n:Nat):List ResultVar:=match Tryz.prog.funcs[n]? with
 | some fn=>fn.results.toList
 | none=>[]
noncomputable def mOf (n:Nat):Nat:=zdH.getD n 0
abbrev QT:=Exit→List KV→List (Option KBlk)→Nat→Prop
abbrev RT:=KV→List (Option KBlk)→Nat→Prop
noncomputable def bx (t:Nat) (s:Shape) (v:KV):KBlk:=⟨.box t,s,v⟩
noncomputable def pc (E:KEnv) (f:Nat) (l:List Code) (lt li:List Nat) (s:LS) (Q:QT) (R:RT):Prop:=kpre E 60 (mOf f) l (xA s.1) (xI s.2.1) s.2.2 0 (zee Tryz.prog (rOf f) lt li Q R)
noncomputable def ztJ:Shape:=.cons .sc (.cons (.cons .sc (.cons .sc .nl)) (.cons (.arr 32 .sc) .nl))
noncomputable def zkB:Shape:=.cons .sc (.cons (.arr 32 .sc) .nl)
noncomputable def zxo:Shape:=.cons .sc (.cons .sc (.cons (.arr 4 ztJ) (.cons (.arr 4 zkB) .nl)))
noncomputable def zkC:Shape:=.cons zxo (.cons .sc (.cons .sc (.cons (.arr 4 .sc) .nl)))
noncomputable def ztK:Shape:=.cons .sc (.cons .sc .nl)
structure Un where
 nd:Nd
 sl:Int
 di:Bool
 ch:Nat→Bool
noncomputable def Un.k (x:Un):KV:=.cons x.nd.k (.cons (.int .i64 x.sl) (.cons (.bool x.di) (.cons (kAr 4 (.bool false) fun i=>.bool (x.ch i)) .nl)))
noncomputable def trK (n m:Nat) (c:Nat→Un):KV:=.cons (nI n) (.cons (.ro true false zkC 0 m (.fa m fun i=>(c i).k)) .nl)
noncomputable def xO (n l j:Nat):Nat:=@Nat.rec (fun _=>Nat) j (fun k ih=>Nat.add ih (xv n k)) l
noncomputable def ztL:zk:=fun l K=>on3 l fun n l j=>(vV n=true∧l≤2∧j < 4294967296)∧K (nI (xO n l j))
noncomputable def ztM:zk:=fun l K=>on3 l fun n l i=>(vV n=true∧isS n l i=true)∧K (nI (xl n l i))
noncomputable def vb:KEnv:=EO0.tab [(82,ztL),(58,zt2),(117,ztM),(55,zmF)]
noncomputable def ja:List Code:=fl (cOf 110)
noncomputable def zhq:Code:=lpB (blB (ja.getD 7 .skip))
noncomputable def zhr:Code:=lpB (blB (ja.getD 10 .skip))
noncomputable def Xf:Code:=lpB (blB (ja.getD 14 .skip))
noncomputable def Zf:Code:=blB ((fl Xf).getD 2 .skip)
noncomputable def zhs:Code:=lpB (blB ((fl Zf).getD 4 .skip))
abbrev zA:=KV→Prop
noncomputable def zTr (n m:Nat) (c:Nat→Un):KBlk:=bx 37 ztK (trK n m c)
noncomputable def zUn (y:Un):KBlk:=bx 105 zkC y.k
noncomputable def pT:KV:=.ptr 0 [] ztK
noncomputable def pU:KV:=.ptr 1 [] zkC
noncomputable def vB (n l j w:Nat) (d:Bool):List KV:=[nI l,nI j,pT,nI n,pU,.bool d,nI w]
noncomputable def sB (n m:Nat) (c:Nat→Un) (y:Un) (l j w:Nat) (d:Bool):LS:=([(1,nI l),(2,nI j),(3,pT),(7,nI n),(8,pU),(9,.bool d),(10,nI w)],[(0,zTr n m c),(1,zUn y)],2)
noncomputable def zB2 (n m:Nat) (c:Nat→Un) (y:Un):List (Option KBlk):=[some (zTr n m c),some (zUn y)]
noncomputable def eqN (a b:Nat):Bool:=eqI (.ofNat a) (.ofNat b)
noncomputable def pB (n m:Nat) (c:Nat→Un) (y:Un) (l j w:Nat) (d:Bool) (Q:QT) (R:zA):Prop:=pc vb 110 (fl zhq) [1,2,3,7,8,9,10] [0,1] (sB n m c y l j w d) Q fun v _ _=>R v
noncomputable def fBn (n m:Nat) (c:Nat→Un) (y:Un) (l j w:Nat) (d:Bool) (Q:QT) (R:zA) (bad:Prop→Prop):Prop :=
 alt (y.ch w) (bad (Q .normal (vB n l j (Nat.succ w) (@Bool.rec (fun _=>Bool) (y.ch w) true d)) (zB2 n m c y) 2)) (Q .normal (vB n l j (Nat.succ w) (@Bool.rec (fun _=>Bool) (y.ch w) true d)) (zB2 n m c y) 2)
noncomputable def we (y:Un) (l w:Nat) (R:zA) (q:Prop):Prop:=@Nat.rec (fun _=>Prop) (alt (eZ (y.nd.rc w).st) (R (nI 9)) q) (fun _ _=>R (nI 9)) l
theorem zo2 (n m:Nat) (c:Nat→Un) (y:Un) (l j:Nat) (Q:QT) (R:zA):pB n m c y 0 j 0 false Q R=fBn n m c y 0 j 0 false Q R (we y 0 0 R):=by kernel_rfl
theorem zo3 (n m:Nat) (c:Nat→Un) (y:Un) (l j:Nat) (Q:QT) (R:zA):pB n m c y 0 j 0 true Q R=fBn n m c y 0 j 0 true Q R (we y 0 0 R):=by kernel_rfl
theorem zo4 (n m:Nat) (c:Nat→Un) (y:Un) (l j:Nat) (Q:QT) (R:zA):pB n m c y (Nat.succ l) j 0 false Q R=fBn n m c y (Nat.succ l) j 0 false Q R (we y (Nat.succ l) 0 R):=by kernel_rfl
theorem zo5 (n m:Nat) (c:Nat→Un) (y:Un) (l j:Nat) (Q:QT) (R:zA):pB n m c y (Nat.succ l) j 0 true Q R=fBn n m c y (Nat.succ l) j 0 true Q R (we y (Nat.succ l) 0 R):=by kernel_rfl
theorem zo6 (n m:Nat) (c:Nat→Un) (y:Un) (l j:Nat) (Q:QT) (R:zA):pB n m c y 0 j 1 false Q R=fBn n m c y 0 j 1 false Q R (we y 0 1 R):=by kernel_rfl
theorem zo7 (n m:Nat) (c:Nat→Un) (y:Un) (l j:Nat) (Q:QT) (R:zA):pB n m c y 0 j 1 true Q R=fBn n m c y 0 j 1 true Q R (we y 0 1 R):=by kernel_rfl
theorem zo8 (n m:Nat) (c:Nat→Un) (y:Un) (l j:Nat) (Q:QT) (R:zA):pB n m c y (Nat.succ l) j 1 false Q R=fBn n m c y (Nat.succ l) j 1 false Q R (we y (Nat.succ l) 1 R):=by kernel_rfl
theorem zo9 (n m:Nat) (c:Nat→Un) (y:Un) (l j:Nat) (Q:QT) (R:zA):pB n m c y (Nat.succ l) j 1 true Q R=fBn n m c y (Nat.succ l) j 1 true Q R (we y (Nat.succ l) 1 R):=by kernel_rfl
theorem zpa (n m:Nat) (c:Nat→Un) (y:Un) (l j:Nat) (Q:QT) (R:zA):pB n m c y 0 j 2 false Q R=fBn n m c y 0 j 2 false Q R (we y 0 2 R):=by kernel_rfl
theorem zpb (n m:Nat) (c:Nat→Un) (y:Un) (l j:Nat) (Q:QT) (R:zA):pB n m c y 0 j 2 true Q R=fBn n m c y 0 j 2 true Q R (we y 0 2 R):=by kernel_rfl
theorem zpc (n m:Nat) (c:Nat→Un) (y:Un) (l j:Nat) (Q:QT) (R:zA):pB n m c y (Nat.succ l) j 2 false Q R=fBn n m c y (Nat.succ l) j 2 false Q R (we y (Nat.succ l) 2 R):=by kernel_rfl
theorem zpd (n m:Nat) (c:Nat→Un) (y:Un) (l j:Nat) (Q:QT) (R:zA):pB n m c y (Nat.succ l) j 2 true Q R=fBn n m c y (Nat.succ l) j 2 true Q R (we y (Nat.succ l) 2 R):=by kernel_rfl
theorem zpe (n m:Nat) (c:Nat→Un) (y:Un) (l j:Nat) (Q:QT) (R:zA):pB n m c y 0 j 3 false Q R=fBn n m c y 0 j 3 false Q R (we y 0 3 R):=by kernel_rfl
theorem zpf (n m:Nat) (c:Nat→Un) (y:Un) (l j:Nat) (Q:QT) (R:zA):pB n m c y 0 j 3 true Q R=fBn n m c y 0 j 3 true Q R (we y 0 3 R):=by kernel_rfl
theorem zpg (n m:Nat) (c:Nat→Un) (y:Un) (l j:Nat) (Q:QT) (R:zA):pB n m c y (Nat.succ l) j 3 false Q R=fBn n m c y (Nat.succ l) j 3 false Q R (we y (Nat.succ l) 3 R):=by kernel_rfl
theorem zph (n m:Nat) (c:Nat→Un) (y:Un) (l j:Nat) (Q:QT) (R:zA):pB n m c y (Nat.succ l) j 3 true Q R=fBn n m c y (Nat.succ l) j 3 true Q R (we y (Nat.succ l) 3 R):=by kernel_rfl
theorem eB {n m:Nat}{c:Nat→Un}{y:Un}{l j w:Nat}{d:Bool}{Q:QT}{R:zA}(hw:w < 4):pB n m c y l j w d Q R=fBn n m c y l j w d Q R (we y l w R):=by
 match w,hw,l,d with
 | 0,_,0,false=>exact zo2 n m c y 0 j Q R
 | 0,_,0,true=>exact zo3 n m c y 0 j Q R
 | 0,_,l + 1,false=>exact zo4 n m c y l j Q R
 | 0,_,l + 1,true=>exact zo5 n m c y l j Q R
 | 1,_,0,false=>exact zo6 n m c y 0 j Q R
 | 1,_,0,true=>exact zo7 n m c y 0 j Q R
 | 1,_,l + 1,false=>exact zo8 n m c y l j Q R
 | 1,_,l + 1,true=>exact zo9 n m c y l j Q R
 | 2,_,0,false=>exact zpa n m c y 0 j Q R
 | 2,_,0,true=>exact zpb n m c y 0 j Q R
 | 2,_,l + 1,false=>exact zpc n m c y l j Q R
 | 2,_,l + 1,true=>exact zpd n m c y l j Q R
 | 3,_,0,false=>exact zpe n m c y 0 j Q R
 | 3,_,0,true=>exact zpf n m c y 0 j Q R
 | 3,_,l + 1,false=>exact zpg n m c y l j Q R
 | 3,_,l + 1,true=>exact zph n m c y l j Q R
theorem eB4 (n m:Nat) (c:Nat→Un) (y:Un) (l j:Nat) (d:Bool) (Q:QT) (R:zA):pB n m c y l j 4 d Q R=Q (.exit 0) (vB n l j 4 d) (zB2 n m c y) 2:=by kernel_rfl
noncomputable def vC (n l j p w:Nat) (d:Bool):List KV:=[nI l,nI j,pT,nI n,pU,.bool d,nI p,nI w]
noncomputable def sC (n m:Nat) (c:Nat→Un) (y:Un) (l j p w:Nat) (d:Bool):LS:=([(1,nI l),(2,nI j),(3,pT),(7,nI n),(8,pU),(9,.bool d),(11,nI p),(12,nI w)],[(0,zTr n m c),(1,zUn y)],2)
noncomputable def pC (n m:Nat) (c:Nat→Un) (y:Un) (l j:Nat) (d:Bool) (Q:QT) (R:zA):Prop:=pc vb 110 ((ja.drop 8).take 2) [1,2,3,7,8,9,11,12] [0,1] (sB n m c y l j 4 d) Q fun v _ _=>R v
theorem eC (n m:Nat) (c:Nat→Un) (y:Un) (l j:Nat) (d:Bool) (Q:QT) (R:zA):pC n m c y l j d Q R=((vV n=true∧isS n l j=true)∧Q .normal (vC n l j (xl n l j) 0 d) (zB2 n m c y) 2):=by kernel_rfl
noncomputable def pD (n m:Nat) (c:Nat→Un) (y:Un) (l j p w:Nat) (d:Bool) (Q:QT) (R:zA):Prop:=pc vb 110 (fl zhr) [1,2,3,7,8,9,11,12] [0,1] (sC n m c y l j p w d) Q fun v _ _=>R v
noncomputable def ltN (a b:Nat):Bool:=ltI (.ofNat a) (.ofNat b)
theorem eD0 (n m:Nat) (c:Nat→Un) (y:Un) (j p w:Nat) (d:Bool) (Q:QT) (R:zA):pD n m c y 0 j p w d Q R=alt (ltN w p) (Q (.exit 2) (vC n 0 j p w d) (zB2 n m c y) 2) (Q (.exit 2) (vC n 0 j p w d) (zB2 n m c y) 2):=by kernel_rfl
noncomputable def j4 (j w:Nat):Nat:=Nat.add (Nat.mul 4 j) w
theorem eDt (n m:Nat) (c:Nat→Un) (y:Un) (l j p w:Nat) (Q:QT) (R:zA):pD n m c y (Nat.succ l) j p w true Q R=alt (ltN w p) (cnd (b63 (Nat.add w 1)) (Q .normal (vC n (Nat.succ l) j p (Nat.add w 1) true) (zB2 n m c y) 2)) (Q (.exit 2) (vC n (Nat.succ l) j p w true) (zB2 n m c y) 2):=by kernel_rfl
theorem eDf (n m:Nat) (c:Nat→Un) (y:Un) (l j p w:Nat) (Q:QT) (R:zA):pD n m c y (Nat.succ l) j p w false Q R=alt (ltN w p) (cnd (b63 (Nat.sub (Nat.succ l) 1)) (cnd (b63 (Nat.mul 4 j)) (cnd (b63 (j4 j w)) ((vV n=true∧l≤2∧j4 j w < 4294967296)∧cnd (ixB (.ofNat (xO n l (j4 j w))) m) (cnd (b63 (Nat.add w 1)) (Q .normal (vC n (Nat.succ l) j p (Nat.add w 1) (c (Nat.add 0 (xO n l (j4 j w)))).di) (zB2 n m c y) 2)))))) (Q (.exit 2) (vC n (Nat.succ l) j p w false) (zB2 n m c y) 2):=by kernel_rfl
noncomputable def vF (n l j p w:Nat):List KV:=[nI l,nI j,pT,nI n,pU,nI p,nI w]
noncomputable def tF (n l j p w:Nat):List (Nat×KV):=[(1,nI l),(2,nI j),(3,pT),(7,nI n),(8,pU),(11,nI p),(13,nI w)]
noncomputable def sF (n m:Nat) (c:Nat→Un) (y:Un) (l j p w:Nat):LS:=(tF n l j p w,[(0,zTr n m c),(1,zUn y)],2)
noncomputable def pE (n m:Nat) (c:Nat→Un) (y:Un) (l j p w:Nat) (d:Bool) (Q:QT) (R:zA):Prop:=pc vb 110 ((ja.drop 11).take 3) [1,2,3,7,8,11,13] [0,1] (sC n m c y l j p w d) Q fun v _ _=>R v
theorem eE (n m:Nat) (c:Nat→Un) (y:Un) (l j p w:Nat) (d:Bool) (Q:QT) (R:zA):pE n m c y l j p w d Q R=alt (!Jm y.di d) (R (nI 9)) (Q .normal (vF n l j p 0) (zB2 n m c y) 2):=by kernel_rfl
noncomputable def pF (n m:Nat) (c:Nat→Un) (y:Un) (l j p w:Nat) (Q:QT) (R:zA):Prop:=pc vb 110 ((fl Xf).take 2) [1,2,3,7,8,11,13] [0,1] (sF n m c y l j p w) Q fun v _ _=>R v
theorem eF0 (n m:Nat) (c:Nat→Un) (y:Un) (j p w:Nat) (Q:QT) (R:zA):pF n m c y 0 j p w Q R=alt (ltN w p) (Q (.exit 4) (vF n 0 j p w) (zB2 n m c y) 2) (Q (.exit 4) (vF n 0 j p w) (zB2 n m c y) 2):=by kernel_rfl
theorem eFs (n m:Nat) (c:Nat→Un) (y:Un) (l j p w:Nat) (Q:QT) (R:zA):pF n m c y (Nat.succ l) j p w Q R=alt (ltN w p) (Q .normal (vF n (Nat.succ l) j p w) (zB2 n m c y) 2) (Q (.exit 4) (vF n (Nat.succ l) j p w) (zB2 n m c y) 2):=by kernel_rfl
noncomputable def pV:KV:=.ptr 2 [] zkC
noncomputable def pW:KV:=.ptr 3 [] zkB
noncomputable def vG (n l j p w:Nat) (u:Bool) (i:Nat):List KV:=[nI l,nI j,pT,nI n,pU,nI p,nI w,pV,pW,.bool u,nI i]
noncomputable def sG (n m:Nat) (c:Nat→Un) (y z:Un) (l j p w:Nat) (u:Bool) (i:Nat):LS:=(tF n l j p w++[(14,pV),(15,pW),(16,.bool u),(17,nI i)],[(0,zTr n m c),(1,zUn y),(2,zUn z),(3,bx 99 zkB enZ)],4)
noncomputable def zG (n m:Nat) (c:Nat→Un) (y z:Un):List (Option KBlk):=[some (zTr n m c),some (zUn y),some (zUn z),some (bx 99 zkB enZ)]
noncomputable def pG (n m:Nat) (c:Nat→Un) (y:Un) (l j p w:Nat) (Q:QT) (R:zA):Prop:=pc vb 110 ((fl Zf).take 4) [1,2,3,7,8,11,13,14,15,16,17] [0,1,2,3] (sF n m c y l j p w) Q fun v _ _=>R v
theorem eG (n m:Nat) (c:Nat→Un) (y:Un) (l j p w:Nat) (Q:QT) (R:zA):pG n m c y (Nat.succ l) j p w Q R=cnd (b63 (Nat.sub (Nat.succ l) 1)) (cnd (b63 (Nat.mul 4 j)) (cnd (b63 (j4 j w)) ((vV n=true∧l≤2∧j4 j w < 4294967296)∧cnd (ixB (.ofNat (xO n l (j4 j w))) m) (Q .normal (vG n (Nat.succ l) j p w false 0) (zG n m c y (c (Nat.add 0 (xO n l (j4 j w))))) 4)))):=by kernel_rfl
noncomputable def gtZ (a:Nat):Bool:=ltI (.ofNat 0) (.ofNat a)
noncomputable def pH (n m:Nat) (c:Nat→Un) (y z:Un) (l j p w:Nat) (u:Bool) (i:Nat) (Q:QT) (R:zA):Prop:=pc vb 110 (fl zhs) [1,2,3,7,8,11,13,14,15,16,17] [0,1,2,3] (sG n m c y z l j p w u i) Q fun v _ _=>R v
noncomputable def fHx (n m:Nat) (c:Nat→Un) (y z:Un) (l j p w i:Nat) (u:Bool) (Q:QT):Prop:=@Bool.rec (fun _=>Prop) (alt (gtZ (z.nd.rc i).st) (Q .normal (vG n l j p w true (Nat.succ i)) (zG n m c y z) 4) (Q .normal (vG n l j p w (gtZ (z.nd.en i).st) (Nat.succ i)) (zG n m c y z) 4)) (Q .normal (vG n l j p w true (Nat.succ i)) (zG n m c y z) 4) u
theorem zt4 (n m:Nat) (c:Nat→Un) (y z:Un) (l j p w:Nat) (Q:QT) (R:zA):pH n m c y z l j p w false 0 Q R=fHx n m c y z l j p w 0 false Q:=by kernel_rfl
theorem zt5 (n m:Nat) (c:Nat→Un) (y z:Un) (l j p w:Nat) (Q:QT) (R:zA):pH n m c y z l j p w true 0 Q R=fHx n m c y z l j p w 0 true Q:=by kernel_rfl
theorem zt6 (n m:Nat) (c:Nat→Un) (y z:Un) (l j p w:Nat) (Q:QT) (R:zA):pH n m c y z l j p w false 1 Q R=fHx n m c y z l j p w 1 false Q:=by kernel_rfl
theorem zt7 (n m:Nat) (c:Nat→Un) (y z:Un) (l j p w:Nat) (Q:QT) (R:zA):pH n m c y z l j p w true 1 Q R=fHx n m c y z l j p w 1 true Q:=by kernel_rfl
theorem zt8 (n m:Nat) (c:Nat→Un) (y z:Un) (l j p w:Nat) (Q:QT) (R:zA):pH n m c y z l j p w false 2 Q R=fHx n m c y z l j p w 2 false Q:=by kernel_rfl
theorem zt9 (n m:Nat) (c:Nat→Un) (y z:Un) (l j p w:Nat) (Q:QT) (R:zA):pH n m c y z l j p w true 2 Q R=fHx n m c y z l j p w 2 true Q:=by kernel_rfl
theorem zua (n m:Nat) (c:Nat→Un) (y z:Un) (l j p w:Nat) (Q:QT) (R:zA):pH n m c y z l j p w false 3 Q R=fHx n m c y z l j p w 3 false Q:=by kernel_rfl
theorem zub (n m:Nat) (c:Nat→Un) (y z:Un) (l j p w:Nat) (Q:QT) (R:zA):pH n m c y z l j p w true 3 Q R=fHx n m c y z l j p w 3 true Q:=by kernel_rfl
theorem eH {n m:Nat}{c:Nat→Un}{y z:Un}{l j p w i:Nat}{u:Bool}{Q:QT}{R:zA}(hi:i < 4):pH n m c y z l j p w u i Q R=fHx n m c y z l j p w i u Q:=by
 match i,hi,u with
 | 0,_,false=>exact zt4 n m c y z l j p w Q R
 | 0,_,true=>exact zt5 n m c y z l j p w Q R
 | 1,_,false=>exact zt6 n m c y z l j p w Q R
 | 1,_,true=>exact zt7 n m c y z l j p w Q R
 | 2,_,false=>exact zt8 n m c y z l j p w Q R
 | 2,_,true=>exact zt9 n m c y z l j p w Q R
 | 3,_,false=>exact zua n m c y z l j p w Q R
 | 3,_,true=>exact zub n m c y z l j p w Q R
theorem eH4 (n m:Nat) (c:Nat→Un) (y z:Un) (l j p w:Nat) (u:Bool) (Q:QT) (R:zA):pH n m c y z l j p w u 4 Q R=Q (.exit 6) (vG n l j p w u 4) (zG n m c y z) 4:=by kernel_rfl
noncomputable def eqB (n:Nat) (f g:Nat→Nat):Bool:=@Nat.rec (fun _=>Bool) true (fun i ih=>nd ih (eqN (f i) (g i))) n
noncomputable def En.eqb (a b:En):Bool:=nd (eqN a.st b.st) (nd (eqB 32 (nN a.dg) (nN b.dg)) true)
noncomputable def pI (n m:Nat) (c:Nat→Un) (y z:Un) (l j p w:Nat) (u:Bool) (Q:QT) (R:zA):Prop:=pc vb 110 ((fl Zf).drop 5) [1,2,3,7,8,11,13] [0,1] (sG n m c y z l j p w u 4) Q fun v _ _=>R v
noncomputable def Un.w (z:Un) (s:Int) (d:Bool):Un:=⟨z.nd,s,d,z.ch⟩
noncomputable def fIx (n m:Nat) (c:Nat→Un) (y z:Un) (l j p w:Nat) (st:Nat) (Q:QT) (R:zA):Prop:=zqq z.nd.nf∧alt (!(y.nd.en w).eqb ⟨st,z.nd.nf.dg⟩) (R (nI 9)) (Q .normal (vF n l j p w) (zB2 n m c y) 4)
theorem zxu (n m:Nat) (c:Nat→Un) (y z:Un) (l j p:Nat) (Q:QT) (R:zA):pI n m c y z l j p 0 false Q R=alt (!(y.nd.en 0).zb) (R (nI 9)) (Q .normal (vF n l j p 0) (zB2 n m c y) 4):=by kernel_rfl
theorem zpi (n m:Nat) (c:Nat→Un) (y z:Un) (l j p:Nat) (Q:QT) (R:zA):pI n m c y (z.w 0 false) l j p 0 true Q R=fIx n m c y z l j p 0 1 Q R:=by kernel_rfl
theorem zpj (n m:Nat) (c:Nat→Un) (y z:Un) (l j p:Nat) (Q:QT) (R:zA):pI n m c y (z.w 0 true) l j p 0 true Q R=fIx n m c y z l j p 0 2 Q R:=by kernel_rfl
theorem zpk (n m:Nat) (c:Nat→Un) (y z:Un) (l j p:Nat) (Q:QT) (R:zA):pI n m c y (z.w 1 false) l j p 0 true Q R=fIx n m c y z l j p 0 2 Q R:=by kernel_rfl
theorem zpl (n m:Nat) (c:Nat→Un) (y z:Un) (l j p:Nat) (Q:QT) (R:zA):pI n m c y (z.w 1 true) l j p 0 true Q R=fIx n m c y z l j p 0 1 Q R:=by kernel_rfl
theorem zxv (n m:Nat) (c:Nat→Un) (y z:Un) (l j p:Nat) (Q:QT) (R:zA):pI n m c y z l j p 1 false Q R=alt (!(y.nd.en 1).zb) (R (nI 9)) (Q .normal (vF n l j p 1) (zB2 n m c y) 4):=by kernel_rfl
theorem zpm (n m:Nat) (c:Nat→Un) (y z:Un) (l j p:Nat) (Q:QT) (R:zA):pI n m c y (z.w 0 false) l j p 1 true Q R=fIx n m c y z l j p 1 1 Q R:=by kernel_rfl
theorem zpn (n m:Nat) (c:Nat→Un) (y z:Un) (l j p:Nat) (Q:QT) (R:zA):pI n m c y (z.w 0 true) l j p 1 true Q R=fIx n m c y z l j p 1 2 Q R:=by kernel_rfl
theorem zpo (n m:Nat) (c:Nat→Un) (y z:Un) (l j p:Nat) (Q:QT) (R:zA):pI n m c y (z.w 1 false) l j p 1 true Q R=fIx n m c y z l j p 1 2 Q R:=by kernel_rfl
theorem zpp (n m:Nat) (c:Nat→Un) (y z:Un) (l j p:Nat) (Q:QT) (R:zA):pI n m c y (z.w 1 true) l j p 1 true Q R=fIx n m c y z l j p 1 1 Q R:=by kernel_rfl
theorem zxw (n m:Nat) (c:Nat→Un) (y z:Un) (l j p:Nat) (Q:QT) (R:zA):pI n m c y z l j p 2 false Q R=alt (!(y.nd.en 2).zb) (R (nI 9)) (Q .normal (vF n l j p 2) (zB2 n m c y) 4):=by kernel_rfl
theorem zpq (n m:Nat) (c:Nat→Un) (y z:Un) (l j p:Nat) (Q:QT) (R:zA):pI n m c y (z.w 0 false) l j p 2 true Q R=fIx n m c y z l j p 2 1 Q R:=by kernel_rfl
theorem zpr (n m:Nat) (c:Nat→Un) (y z:Un) (l j p:Nat) (Q:QT) (R:zA):pI n m c y (z.w 0 true) l j p 2 true Q R=fIx n m c y z l j p 2 2 Q R:=by kernel_rfl
theorem zps (n m:Nat) (c:Nat→Un) (y z:Un) (l j p:Nat) (Q:QT) (R:zA):pI n m c y (z.w 1 false) l j p 2 true Q R=fIx n m c y z l j p 2 2 Q R:=by kernel_rfl
theorem zpt (n m:Nat) (c:Nat→Un) (y z:Un) (l j p:Nat) (Q:QT) (R:zA):pI n m c y (z.w 1 true) l j p 2 true Q R=fIx n m c y z l j p 2 1 Q R:=by kernel_rfl
theorem zxx (n m:Nat) (c:Nat→Un) (y z:Un) (l j p:Nat) (Q:QT) (R:zA):pI n m c y z l j p 3 false Q R=alt (!(y.nd.en 3).zb) (R (nI 9)) (Q .normal (vF n l j p 3) (zB2 n m c y) 4):=by kernel_rfl
theorem zpu (n m:Nat) (c:Nat→Un) (y z:Un) (l j p:Nat) (Q:QT) (R:zA):pI n m c y (z.w 0 false) l j p 3 true Q R=fIx n m c y z l j p 3 1 Q R:=by kernel_rfl
theorem zpv (n m:Nat) (c:Nat→Un) (y z:Un) (l j p:Nat) (Q:QT) (R:zA):pI n m c y (z.w 0 true) l j p 3 true Q R=fIx n m c y z l j p 3 2 Q R:=by kernel_rfl
theorem zpw (n m:Nat) (c:Nat→Un) (y z:Un) (l j p:Nat) (Q:QT) (R:zA):pI n m c y (z.w 1 false) l j p 3 true Q R=fIx n m c y z l j p 3 2 Q R:=by kernel_rfl
theorem zpx (n m:Nat) (c:Nat→Un) (y z:Un) (l j p:Nat) (Q:QT) (R:zA):pI n m c y (z.w 1 true) l j p 3 true Q R=fIx n m c y z l j p 3 1 Q R:=by kernel_rfl
noncomputable def Un.stS (z:Un):Nat:=@Int.rec (fun _=>Nat) (fun a=>@Nat.rec (fun _=>Nat) (@Bool.rec (fun _=>Nat) 1 2 z.di) (fun _ _=>@Bool.rec (fun _=>Nat) 2 1 z.di) a) (fun _=>0) z.sl
theorem eI0 {n m:Nat}{c:Nat→Un}{y z:Un}{l j p w:Nat}{Q:QT}{R:zA}(hw:w < 4):pI n m c y z l j p w false Q R=alt (!(y.nd.en w).zb) (R (nI 9)) (Q .normal (vF n l j p w) (zB2 n m c y) 4):=by
 match w,hw with
 | 0,_=>exact zxu n m c y z l j p Q R
 | 1,_=>exact zxv n m c y z l j p Q R
 | 2,_=>exact zxw n m c y z l j p Q R
 | 3,_=>exact zxx n m c y z l j p Q R
theorem eI1 {n m:Nat}{c:Nat→Un}{y z:Un}{l j p w:Nat}{Q:QT}{R:zA}(hw:w < 4) (hz:z.sl=0∨z.sl=1):pI n m c y z l j p w true Q R=fIx n m c y z l j p w z.stS Q R:=by
 obtain⟨nd,sl,di,ch⟩:=z
 rcases (show sl=0∨sl=1 from hz) with rfl | rfl
 ·match w,hw,di with
  | 0,_,false=>exact zpi n m c y ⟨nd,0,false,ch⟩ l j p Q R
  | 0,_,true=>exact zpj n m c y ⟨nd,0,true,ch⟩ l j p Q R
  | 1,_,false=>exact zpm n m c y ⟨nd,0,false,ch⟩ l j p Q R
  | 1,_,true=>exact zpn n m c y ⟨nd,0,true,ch⟩ l j p Q R
  | 2,_,false=>exact zpq n m c y ⟨nd,0,false,ch⟩ l j p Q R
  | 2,_,true=>exact zpr n m c y ⟨nd,0,true,ch⟩ l j p Q R
  | 3,_,false=>exact zpu n m c y ⟨nd,0,false,ch⟩ l j p Q R
  | 3,_,true=>exact zpv n m c y ⟨nd,0,true,ch⟩ l j p Q R
 ·match w,hw,di with
  | 0,_,false=>exact zpk n m c y ⟨nd,1,false,ch⟩ l j p Q R
  | 0,_,true=>exact zpl n m c y ⟨nd,1,true,ch⟩ l j p Q R
  | 1,_,false=>exact zpo n m c y ⟨nd,1,false,ch⟩ l j p Q R
  | 1,_,true=>exact zpp n m c y ⟨nd,1,true,ch⟩ l j p Q R
  | 2,_,false=>exact zps n m c y ⟨nd,1,false,ch⟩ l j p Q R
  | 2,_,true=>exact zpt n m c y ⟨nd,1,true,ch⟩ l j p Q R
  | 3,_,false=>exact zpw n m c y ⟨nd,1,false,ch⟩ l j p Q R
  | 3,_,true=>exact zpx n m c y ⟨nd,1,true,ch⟩ l j p Q R
noncomputable def pJ (n m:Nat) (c:Nat→Un) (y:Un) (l j p w:Nat) (Q:QT) (R:zA):Prop:=pc vb 110 ((fl Xf).drop 3) [1,2,3,7,8,11,13] [0,1] (sF n m c y l j p w) Q fun v _ _=>R v
theorem eJ (n m:Nat) (c:Nat→Un) (y:Un) (l j p w:Nat) (Q:QT) (R:zA):pJ n m c y l j p w Q R=cnd (b63 (Nat.add w 1)) (Q .normal (vF n l j p (Nat.add w 1)) (zB2 n m c y) 2):=by kernel_rfl
noncomputable def pL (n m:Nat) (c:Nat→Un) (y:Un) (l j p w:Nat) (Q:QT) (R:zA):Prop:=pc vb 110 (ja.drop 15) [] [] (sF n m c y l j p w) Q fun v _ _=>R v
theorem eL (n m:Nat) (c:Nat→Un) (y:Un) (l j p w:Nat) (Q:QT) (R:zA):pL n m c y l j p w Q R=R (nI 0):=by kernel_rfl
end
end Go.K
