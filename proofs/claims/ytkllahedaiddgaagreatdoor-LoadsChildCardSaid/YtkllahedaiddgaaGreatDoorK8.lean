/- Equality of values in this form. No condition. -/
import Derived.Test.YtkllahedaiddgaaGreatDoorK5
set_option linter.unusedSimpArgs false
set_option linter.unusedVariables false
namespace Go.K
open Go.Ab Go.RowKit Go.Y
noncomputable section
variable [KGl]
section
variable {P:Program}{B:Nat}{o:Oper}{τ:Nat→KV}{lo:Nat}{zm:KZ}{nx:Nat}{K:KT}
def mkS (P:Program) (t:TypeId):Option (TypeId×(Shape×KV)):=match P.underlying t with
 | some (.slice et)=>match wx P et,P.info? et with
  | some sz,some i=>if i.bytes≤1048576 then some (et,sz) else none
  | _,_=>none
 | _=>none
theorem zvJ {t:TypeId}{et:TypeId}{s:Shape}{z:KV}(h:mkS P t=some (et,s,z)):P.underlying t=some (.slice et)∧xu P et=some (s,z.v)∧∃ i,P.info? et=some i∧i.bytes≤1048576:=by
 unfold mkS at h
 split at h
 ·rename_i e hu
  split at h
  ·rename_i sz i hz hi
   split at h
   ·rename_i hc
    simp only[Option.some.injEq,Prod.mk.injEq] at h
    obtain⟨rfl,rfl⟩:=h
    exact⟨hu,wy hz,i,hi,hc⟩
   ·cases h
  ·cases h
 ·cases h
def zBt (et:TypeId) (s:Shape) (z:KV) (same:Bool) (a b:Nat) (zm:KZ) (nx:Nat) (K:KT):Prop :=
 @Bool.rec (fun _=>Prop) (nwB (.row et) (.arr a s) (wc a z) zm nx fun zm nx'=>K (.row nx s a) zm nx' [] []) (nwB (.box et) (.arr b s) (wc b z) zm nx fun zm nx'=>K (.sl nx [] s 0 a (some b)) zm nx' [] []) same
def zoq (P:Program) (t:TypeId) (same:Bool) (l c:KV) (zm:KZ) (nx:Nat) (K:KT):Prop :=
 os 140 (pr fun et sz=>pr (fun s z=>z8 (fun _ a=>z8 (fun _ b=>cnd (mkB a b) (fN (vP a) fun a=>fN (vP b) fun b=>zBt et s z same a b zm nx K)) (BadN 141) c) (BadN 142) l) sz) (mkS P t)
theorem zlU {t:TypeId}{l c:Operand}(ho:o.op=.makeSlice t l c) (h:zoq P t true (kev τ l) (kev τ c) zm nx K):Out P B o τ lo zm nx K:=by
 have hl:=zK τ l
 have hc:=zK τ c
 obtain⟨⟨et,s,z⟩,h1,h2⟩:=xg h
 obtain⟨hu,hz,i,hi,hb⟩:=zvJ h1
 rcases zz (show z8 _ (BadN 142) (kev τ l) from h2) with ⟨_,a,ha,h3⟩ | ⟨_,h3⟩
 ·rcases zz h3 with ⟨_,b,hb',h4⟩ | ⟨_,h4⟩
  ·obtain⟨h5,h6⟩:=za.1 h4
   rw[zU,zU,xo,xo] at h6
   rw[ha] at hl; rw[hb'] at hc
   have hY:∀ e,(RS.tst (mkB a b) e).is e:=fun e=>qf h5
   refine Out.new (show nwB (.box et) (.arr b.toNat s) (wc b.toNat z) zm nx (fun zm nx'=>K (.sl nx [] s 0 a.toNat (some b.toNat)) zm nx' [] []) from h6)
    (znT (e:=⟨.sl nx [] s 0 a.toNat (some b.toNat),[],[⟨.box et,.arr b.toNat s,.arr b.toNat fun _=>z.v⟩],[]⟩) ho ?_) (by rw[ZC]; exact EImp.refl _)
   unfold yMk zgI
   simp only[hu,hz,hi,←hl,←hc,yC]
   rw[if_pos hb]
   exact hY _
  ·exact h4.elim
 ·exact h3.elim
def Xr (st:Bool) (sh:Nat→Option Shape) (l:List (Nat×KV)):KV→(KV→Prop)→Prop:=@List.rec (Nat×KV) (fun _=>KV→(KV→Prop)→Prop) (fun v K=>K v)
 (fun x _ ih v K=>os 143 (fun s=>chk (ZD x.2 s) 144 (Jl x.2 [wo st x.1] v fun v=>ih v K)) (sh x.1)) l
theorem Je {st:Bool}{sh:Nat→Option Shape}{s:Shape}{pl:Nat→Option (Nat×Nat)}(hsh:∀ i t,sh i=some t→∃ d,s.step (wo st i)=some (d,t)∧(pl i==some (d,t.size))=true) :
  ∀(l:List (Nat×KV)) (v:KV) (K:KV→Prop),Xr st sh l v K→∃ v',K v'∧bok s st pl (l.map fun x=>(x.1,x.2.v))=true∧v'.v=JZ st v.v (l.map fun x=>(x.1,x.2.v))
 | [],v,K,h=>⟨v,h,rfl,rfl⟩
 | x::l,v,K,h=>by
  obtain⟨t,h1,h2⟩:=xg (show os 143 (fun s=>chk (ZD x.2 s) 144 (Jl x.2 [wo st x.1] v fun v=>Xr st sh l v K)) (sh x.1) from h)
  obtain⟨h3,h4⟩:=ze h2
  obtain⟨h5,h6⟩:=j5 h3
  obtain⟨v1,h7,h8⟩:=qQ _ _ _ _ h4
  obtain⟨v',h9,h10,h11⟩:=Je hsh l v1 K h7
  obtain⟨d,h12,h13⟩:=hsh _ _ h1
  refine⟨v',h9,?_,?_⟩
  ·simp only[List.map_cons,bok,h12,h13,h5,h6,h10,Bool.and_self]
  ·rw[h11,h8]; rfl
def bdS (P:Program) (t:TypeId):Option ((Shape×KV)×Bool):=match wx P t,qF P t with
 | some sz,some (st,_)=>some (sz,st)
 | _,_=>none
def bpS (P:Program) (t:TypeId) (i:Nat):Option Shape:=match wx P t,qF P t with
 | some (s,_),some (st,pl)=>match s.step (wo st i) with
  | some (d,t)=>if (pl i==some (d,t.size))=true then some t else none
  | none=>none
 | _,_=>none
def zhP (P:Program) (t:TypeId) (ps:List (Nat×KV)) (zm:KZ) (nx:Nat) (K:KT):Prop :=
 os 145 (pr fun sz st=>pr (fun _ z=>Xr st (bpS P t) ps z fun v=>fV v fun v=>K v zm nx [] []) sz) (bdS P t)
theorem zhQ {ps:List (Nat×Operand)}:(ps.map fun x=>(x.1,kev τ x.2)).map (fun x=>(x.1,x.2.v))=ps.map fun x=>(x.1,opv Gl.G (tv' τ) x.2):=by
 rw[List.map_map]
 exact List.map_congr_left fun x _=>by show (x.1,(kev τ x.2).v)=_; rw[zK]
theorem zhR {t:TypeId}{ps:Array (Nat×Operand)}(ho:o.op=.build t ps) (h:zhP P t (ps.toList.map fun x=>(x.1,kev τ x.2)) zm nx K):Out P B o τ lo zm nx K:=by
 obtain⟨⟨⟨s,z⟩,st⟩,h1,h2⟩:=xg h
 have h3:Xr st (bpS P t) (ps.toList.map fun x=>(x.1,kev τ x.2)) z (fun v=>fV v fun v=>K v zm nx [] []):=h2
 unfold bdS at h1
 split at h1
 ·rename_i sz st' pl hz hp
  simp only[Option.some.injEq,Prod.mk.injEq] at h1
  obtain⟨rfl,rfl⟩:=h1
  obtain⟨v',h4,h5,h6⟩:=Je (s:=s) (pl:=pl) (fun i t' hi=>by
   unfold bpS at hi
   rw[hz,hp] at hi
   simp only at hi
   split at hi
   ·rename_i d t2 hd
    split at hi
    ·rename_i hc; cases hi; exact⟨d,hd,hc⟩
    ·cases hi
   ·cases hi) _ _ _ h3
  rw[xC] at h4
  rw[zhQ] at h5 h6
  refine Out.pure h4 (zah (e:=zk v'.v) ho ?_) (EImp.refl _)
  unfold Wz
  rw[wy hz,hp]
  simp only
  rw[if_pos h5,Zj,h6]; rfl
 ·cases h1
def bsS (P:Program) (t:TypeId):Option (TypeId×(Shape×KV)):=match P.underlying t with
 | some (.slice et)=>match wx P et with
  | some sz=>some (et,sz)
  | none=>none
 | _=>none
def bsB (s:Shape) (len:Nat):Bool:=nd (Nat.ble (Nat.mul len s.size) 16777216) (nd (Nat.blt 0 (Nat.mul len s.size)) true)
def bsP (s:Shape) (len i:Nat):Option Shape:=@Bool.rec (fun _=>Option Shape) none (some s) (Nat.blt i len)
def kBS (P:Program) (t:TypeId) (len:Nat) (ps:List (Nat×KV)) (zm:KZ) (nx:Nat) (K:KT):Prop :=
 os 146 (pr fun et sz=>pr (fun s z=>@Bool.rec (fun _=>Prop) (chk (bsB s len) 147 (Xr false (bsP s len) ps (wc len z) fun v=>nwB (.row et) (.arr len s) v zm nx fun zm nx'=>K (.row nx s len) zm nx' [] []))
  (nwB (.row et) (.arr 0 s) (wc 0 z) zm nx fun zm nx'=>K (.row nx s 0) zm nx' [] []) (nd (Nat.beq len 0) (ps.isEmpty))) sz) (bsS P t)
theorem zvK {t:TypeId}{len:Nat}{ps:Array (Nat×Operand)}(ho:o.op=.buildSlice t len ps) (h:kBS P t len (ps.toList.map fun x=>(x.1,kev τ x.2)) zm nx K):Out P B o τ lo zm nx K:=by
 obtain⟨⟨et,s,z⟩,h1,h2⟩:=xg h
 obtain⟨hu,hz⟩:P.underlying t=some (.slice et)∧xu P et=some (s,z.v):=by
  unfold bsS at h1
  split at h1
  ·split at h1
   ·simp only[Option.some.injEq,Prod.mk.injEq] at h1
    obtain⟨rfl,rfl⟩:=h1
    exact⟨‹_›,wy ‹_›⟩
   ·cases h1
  ·cases h1
 have h3:@Bool.rec (fun _=>Prop) (chk (bsB s len) 147 (Xr false (bsP s len) (ps.toList.map fun x=>(x.1,kev τ x.2)) (wc len z) fun v=>nwB (.row et) (.arr len s) v zm nx fun zm nx'=>K (.row nx s len) zm nx' [] []))
  (nwB (.row et) (.arr 0 s) (wc 0 z) zm nx fun zm nx'=>K (.row nx s 0) zm nx' [] []) (nd (Nat.beq len 0) (ps.toList.map fun x=>(x.1,kev τ x.2)).isEmpty):=h2
 cases hb:nd (Nat.beq len 0) (ps.toList.map fun x=>(x.1,kev τ x.2)).isEmpty with
 | true =>
  rw[hb] at h3
  rw[zd] at hb
  obtain⟨q1,q2⟩:=hb
  obtain rfl:=zI q1
  have q3:ps.toList=[]:=by simpa using q2
  refine Out.new (show nwB (.row et) (.arr 0 s) (wc 0 z) zm nx (fun zm nx'=>K (.row nx s 0) zm nx' [] []) from h3) (zgC (e:=⟨.row nx s 0,[],[⟨.row et,.arr 0 s,.arr 0 fun _=>z.v⟩],[]⟩) ho ?_) (by rw[ZC]; exact EImp.refl _)
  rw[q3]
  show (match P.underlying t with | some (.slice et)=>(match xu P et with | some (s,z)=>RS.ok ⟨.row nx s 0,[],[⟨.row et,.arr 0 s,.arr 0 fun _=>z⟩],[]⟩ | none=>RS.bad) | _=>RS.bad).is _
  rw[hu]; simp only; rw[hz]; rfl
 | false =>
  rw[hb] at h3
  obtain⟨h4,h5⟩:=ze (show chk (bsB s len) 147 _ from h3)
  obtain⟨v',h6,h7,h8⟩:=Je (s:=.arr len s) (pl:=fun i=>some (i * s.size,s.size)) (fun i t' hi=>by
   unfold bsP at hi
   cases hlt:Nat.blt i len with
   | false=>rw[hlt] at hi; cases hi
   | true =>
    rw[hlt] at hi
    have:=Option.some.inj hi
    subst this
    exact⟨i * s.size,by show (if i < len then _ else _)=_; rw[if_pos (xZ.1 hlt)],by simp⟩) _ _ _ h5
  rw[zhQ] at h7 h8
  unfold bsB at h4
  simp only[zd] at h4
  have q1:len * s.size≤16777216:=Nat.le_of_ble_eq_true h4.1
  have q2:0 < len * s.size:=xZ.1 h4.2.1
  refine Out.new h6 (zgC (e:=⟨.row nx s len,[],[⟨.row et,.arr len s,v'.v⟩],[]⟩) ho ?_) (EImp.refl _)
  have hne:yBS P t len (ps.toList.map fun x=>(x.1,opv Gl.G (tv' τ) x.2)) nx=v7 P t len (ps.toList.map fun x=>(x.1,opv Gl.G (tv' τ) x.2)) nx:=by
   unfold yBS
   split
   ·omega
   ·rfl
  rw[hne]
  unfold v7
  simp only[hu,hz]
  rw[if_pos (by simp only[Bool.and_eq_true,decide_eq_true_eq]; exact⟨⟨by omega,by omega⟩,h7⟩),Zj,←ZC,←h8]; rfl
inductive IvS where
 | str
 | arr (n:Nat) (s:Shape)
 | bad
def ivS (P:Program) (t:TypeId):IvS:=match P.underlying t with
 | some .string=>.str
 | some (.array n el)=>match ldS P el with
  | some s=>.arr n s
  | none=>.bad
 | _=>.bad
def zdL (P:Program) (t:TypeId) (x ix:KV) (zm:KZ) (nx:Nat) (K:KT):Prop :=
 z8 (fun _ j=>@IvS.rec (fun _=>Prop) (qp (fun n s=>cnd (ixB j n) (fI (pkg .u8 s (vP j)) fun r=>K (.int .u8 r) zm nx [] [])) (BadN 150) x)
  (fun n s=>chk (arN x n) 151 (cnd (ixB j n) (fV (zQ (vP j) x) fun v=>chk (ZD v s) 152 (K v zm nx [] [])))) (BadN 153) (ivS P t)) (BadN 154) ix
theorem zfH {t:TypeId}{x ix:Operand}(ho:o.op=.index t x ix) (h:zdL P t (kev τ x) (kev τ ix) zm nx K):Out P B o τ lo zm nx K:=by
 have hx:=zK τ x
 have hi:=zK τ ix
 rcases zz h with ⟨k,j,hj,h1⟩ | ⟨_,h1⟩
 ·rw[hj] at hi
  unfold ivS at h1
  split at h1
  ·rename_i hu
   rcases vq (show qp (fun n s=>cnd (ixB j n) (fI (pkg .u8 s (vP j)) fun r=>K (.int .u8 r) zm nx [] [])) (BadN 150) (kev τ x) from h1) with ⟨n,s,hs,h2⟩ | ⟨_,h2⟩
   ·obtain⟨h3,h4⟩:=za.1 h2
    rw[jV,xo] at h4
    rw[hs] at hx
    have hsz:(zL n s).size=n:=by show ((List.range n).map _).length=n; simp
    have hlt:j.toNat < n:=by
     unfold ixB at h3
     simp only[Bool.and_eq_true,xR,vA,decide_eq_true_eq,Int.ofNat_eq_natCast] at h3
     omega
    refine Out.pure h4 (Xf (e:=zk (yO (zL n s) j.toNat)) ho ?_) ?_
    ·unfold Zx
     rw[←hi,←hx]
     simp only[yC,zdU,hu,hsz]
     exact qf h3
    ·refine EImp.val ?_
     have:yO (zL n s) j.toNat=.int .u8 (pkg .u8 s j.toNat):=by
      show V.int .u8 ((((List.range n).map fun i=>UInt8.ofNat (pkr .u8 s i)).getD j.toNat 0).toNat:Int)=.int .u8 (.ofNat (pkr .u8 s j.toNat))
      rw[List.getD_eq_getElem?_getD,List.getElem?_map,List.getElem?_range hlt,Option.map_some,Option.getD_some,UInt8.toNat_ofNat']
      have:=qi .u8 s j.toNat
      simp only[mdl] at this
      rw[Nat.mod_eq_of_lt (by omega)]; rfl
     rw[this]; exact Imp.refl _
   ·exact h2.elim
  ·rename_i n el hu
   split at h1
   ·rename_i s hl
    obtain⟨hs,d,hd⟩:=zg5 hl
    obtain⟨h2,h3⟩:=ze (show chk (arN (kev τ x) n) 151 _ from h1)
    obtain⟨h4,h5⟩:=za.1 h3
    rw[xC,xo] at h5
    obtain⟨h6,h7⟩:=ze h5
    obtain⟨f,hf⟩:=zoj h2
    have hk:(zQ j.toNat (kev τ x)).v=f j.toNat:=by rw[xU,hf]; rfl
    refine Out.pure h7 (Xf (e:=zk (f j.toNat)) ho ?_) (by rw[hk]; exact EImp.refl _)
    unfold Zx
    rw[←hi,←hx,hf]
    simp only[yC,hu,hs,hd,if_true]
    have h8:=(j5 h6).1
    rw[hk] at h8
    exact qf (by rw[h4,h8]; rfl)
   ·exact (show BadN 153 from h1).elim
  ·exact (show BadN 153 from h1).elim
 ·exact h1.elim
def fvS (P:Program) (t:TypeId) (k:Nat):Option Shape:=match P.underlying t,z5 P t with
 | some (.struct fs),some s=>match fs[k]?,s.fld k with
  | some fd,some (d,s')=>match z5 P fd.type,P.underlying fd.type with
   | some s2,some _=>if d=fd.offset∧s2.beq s'=true then some s else none
   | _,_=>none
  | _,_=>none
 | _,_=>none
def zdM (P:Program) (t:TypeId) (x:KV) (k:Nat) (zm:KZ) (nx:Nat) (K:KT):Prop:=os 155 (fun s=>chk (nd (zb1 x) (ZD x s)) 156 (fV (zic k x) fun v=>K v zm nx [] [])) (fvS P t k)
theorem zfI {t:TypeId}{x:Operand}{k:Nat}(ho:o.op=.field t x k) (h:zdM P t (kev τ x) k zm nx K):Out P B o τ lo zm nx K:=by
 have hx:=zK τ x
 obtain⟨s,h1,h2⟩:=xg h
 obtain⟨h3,h4⟩:=ze h2
 rw[xC] at h4
 rw[zd] at h3
 refine Out.pure h4 (Qz (e:=zk ((kev τ x).v.fld k)) ho ?_) (by rw[W6]; exact EImp.refl _)
 unfold fvS at h1
 split at h1
 ·rename_i fs s' hu hs
  split at h1
  ·rename_i fd d s2 hf hd
   split at h1
   ·rename_i s3 _ hs3 hu3
    split at h1
    ·rename_i hc
     cases h1
     unfold X9
     rw[←hx]
     simp only[hu,hs,hf,hd,hs3,hu3]
     rw[if_pos ⟨Jd h3.1,(j5 h3.2).1,hc.1,hc.2⟩]; rfl
    ·cases h1
   ·cases h1
  ·cases h1
 ·cases h1
inductive CvS where
 | num (k:IntKind)
 | str
 | toB
 | toS
 | mk
 | bad
def cvS (P:Program) (src dst:TypeId):CvS:=match P.underlying dst,P.underlying src with
 | some (.int k),some _=>.num k
 | some .string,some .string=>.str
 | some (.slice e),some .string=>match P.underlying e with
  | some (.int .u8)=>.toB
  | _=>.bad
 | some .string,some (.slice e)=>match P.underlying e with
  | some (.int .u8)=>.toS
  | _=>.bad
 | some (.slice e),some (.slice _)=>if dst=src then match P.underlying e with
  | some (.int .u8)=>.mk
  | _=>.bad
  else .bad
 | _,_=>.bad
def zq3 (x:KV):Bool:=match x with
 | .int k _=>xa k .u8
 | _=>false
def intOf (v:V):Int:=match v with
 | .int _ a=>a
 | _=>0
omit [KGl] in
theorem zq4 {x:KV}(h:zq3 x=true):x.v=.int .u8 (intOf x.v):=by
 unfold zq3 at h
 split at h
 ·rw[zD h]; rfl
 ·cases h
def kMk (lo:Nat) (zm:KZ) (nx:Nat) (K:KT) (id:Nat) (e:Shape) (len:Nat):Prop :=
 oB zm id fun kd sh v=>@Kind.rec (fun _=>Prop) (fun _=>BadN 214) (fun _=>chk (nd (xF e) (nd (Nat.ble lo id) (Nat.blt 0 len))) 215 (wh (fun k n y=>chk (xa k .u8) 216 (upB id .dead sh .unk zm fun zm=>K (.ro true false .sc 0 len (.pk .u8 n y)) zm nx [id] [])) (W5 (fun n d t=>chk (zlS (fun i=>zq3 (zQ i (.ar n d t))) len) 217 (upB id .dead sh .unk zm fun zm=>K (.ro true false .sc 0 len (.ar n d t)) zm nx [id] [])) (BadN 217) v) v)) (BadN 218) (fun _ _ _ _=>BadN 218) (BadN 218) kd
def pkA (h:Nat→Nat):Nat→Nat
 | 0=>0
 | n + 1=>pkA h n + h n * 256 ^ n
omit [KGl] in
theorem zhS {h:Nat→Nat}(hh:∀ i,h i < 256):∀ n,pkA h n < 256 ^ n
 | 0=>Nat.zero_lt_one
 | n + 1=>by
  have:=zhS hh n
  have h1:=hh n
  show pkA h n + h n * 256 ^ n < 256 ^ (n + 1)
  rw[Nat.pow_succ]
  have:h n * 256 ^ n≤255 * 256 ^ n:=Nat.mul_le_mul_right _ (by omega)
  omega
omit [KGl] in
theorem zq5 (x i:Nat):pkr .u8 x i=x / 256 ^ i % 256:=by
 show Nat.mod (Nat.shiftRight x (Nat.mul (wd .u8) i)) (Nat.pow 2 (wd .u8))=_
 show (x >>> (8 * i)) % 2 ^ 8=_
 rw[Nat.shiftRight_eq_div_pow,Nat.pow_mul]
omit [KGl] in
theorem zhT {h:Nat→Nat}(hh:∀ i,h i < 256):∀ n i,i < n→pkA h n / 256 ^ i % 256=h i
 | 0,i,hi=>by omega
 | n + 1,i,hi=>by
  show (pkA h n + h n * 256 ^ n) / 256 ^ i % 256=h i
  rcases Nat.lt_or_ge i n with h1 | h1
  ·have e:h n * 256 ^ n=256 ^ i * (256 * (h n * 256 ^ (n - i - 1))):=by
    have:256 ^ n=256 ^ i * (256 * 256 ^ (n - i - 1)):=by
     rw[←Nat.pow_succ',←Nat.pow_add]; congr 1; omega
    rw[this]
    simp only[Nat.mul_left_comm,Nat.mul_assoc,Nat.mul_comm]
   rw[e,Nat.add_mul_div_left _ _ (Nat.pow_pos (by decide)),Nat.add_mul_mod_self_left]
   exact zhT hh n i h1
  ·obtain rfl:i=n:=by omega
   rw[Nat.add_mul_div_right _ _ (Nat.pow_pos (by decide)),Nat.div_eq_of_lt (zhS hh i),Nat.zero_add]
   exact Nat.mod_eq_of_lt (hh i)
omit [KGl] in
theorem ZL {h:Nat→Nat}(hh:∀ i,h i < 256) {n i:Nat}(hi:i < n):pkr .u8 (pkA h n) i=h i:=by rw[zq5]; exact zhT hh n i hi
def is8 (v:KV):Bool:=match v with
 | .int k (.ofNat a)=>nd (xa k .u8) (Nat.blt a 256)
 | _=>false
def zlV (v:KV):Nat:=match v with
 | .int _ (.ofNat a)=>a
 | _=>0
omit [KGl] in
theorem zvL {v:KV}(h:is8 v=true):v=.int .u8 (.ofNat (zlV v))∧zlV v < 256:=by
 unfold is8 at h
 split at h
 ·rename_i k a
  obtain⟨h1,h2⟩:=zd.1 h
  obtain rfl:=zD h1
  exact⟨rfl,Nat.lt_of_lt_of_le (Nat.lt_succ_self a) (Nat.le_of_ble_eq_true h2)⟩
 ·cases h
def byK (c:KV) (off:Nat) (i:Nat):Nat:=Nat.mod (zlV (zQ (Nat.add off i) c)) 256
def zq6 (zm:KZ) (nx:Nat) (K:KT) (off len:Nat) (c:KV) (rd:List Nat):Prop :=
 @Bool.rec (fun _=>Prop) (cnd (qa len fun i=>is8 (zQ (Nat.add off i) c)) (K (.str len (pkA (byK c off) len)) zm nx [] rd)) (BadN 159) Gl.cl
def zvM (zm:KZ) (nx:Nat) (K:KT) (e:Shape) (off len:Nat) (c:KV) (rd:List Nat):Prop :=
 chk (xF e) 157 (@Bool.rec (fun _=>Prop) (wh (fun k _ x=>chk (xa k .u8) 158 (fN (pkx .u8 x off len) fun y=>K (.str len y) zm nx [] rd)) (zq6 zm nx K off len c rd) c) (K (.str 0 0) zm nx [] rd) (Nat.beq len 0))
def zhU (lo:Nat) (P:Program) (src dst:TypeId) (x:KV) (zm:KZ) (nx:Nat) (K:KT):Prop :=
 @CvS.rec (fun _=>Prop) (fun k=>z8 (fun _ a=>@Bool.rec (fun _=>Prop) (zqV k a fun r=>K (.int k r) zm nx [] []) (fI (VF k a) fun r=>K (.int k r) zm nx [] []) Gl.cl) (BadN 160) x) (qp (fun _ _=>K x zm nx [] []) (BadN 161) x)
  (qp (fun n s=>K (.ro true false .sc 0 n (.pk .u8 n s)) zm nx [] []) (BadN 162) x) (QH .sc x zm (zvM zm nx K)) (yA (kMk lo zm nx K) (BadN 219) x) (BadN 163) (cvS P src dst)
omit [KGl] in
theorem W2 {f:Nat→V}{g:Nat→Int}:∀(c i:Nat),(∀ j,j < c→f (i + j)=.int .u8 (g (i + j)))→u8s f c i=some ((List.range c).map fun j=>g (i + j))
 | 0,i,h=>rfl
 | c + 1,i,h=>by
  have h0:=h 0 (by omega)
  rw[Nat.add_zero] at h0
  have h1:=W2 c (i + 1) fun j hj=>by rw[show i + 1 + j=i + (j + 1) by omega]; exact h (j + 1) (by omega)
  simp only[u8s,h0,h1]
  rw[List.range_succ_eq_map,List.map_cons,List.map_map]
  simp only[Nat.add_zero]
  congr 2
  refine List.map_congr_left fun j _=>?_
  show g (i + 1 + j)=g (i + (j + 1))
  congr 1; omega
theorem zlW {src dst:TypeId}{x:Operand}(ho:o.op=.convert src dst x) (h:zhU lo P src dst (kev τ x) zm nx K):Out P B o τ lo zm nx K:=by
 have hx:=zK τ x
 unfold zhU cvS at h
 split at h
 ·rename_i k d hd hs
  rcases zz (show z8 (fun _ a=>@Bool.rec (fun _=>Prop) (zqV k a fun r=>K (.int k r) zm nx [] []) (fI (VF k a) fun r=>K (.int k r) zm nx [] []) Gl.cl) (BadN 160) (kev τ x) from h) with ⟨k',a,ha,h1⟩ | ⟨_,h1⟩
  ·have h1:K (.int k (VF k a)) zm nx [] []:=by
    cases hc:(Gl.cl:Bool) with
    | false=>rw[hc] at h1; exact zqW (K:=fun r=>K (.int k r) zm nx [] []) h1
    | true=>rw[hc] at h1; have h1:fI (VF k a) fun r=>K (.int k r) zm nx [] []:=h1; rwa [jV] at h1
   rw[ha] at hx
   refine Out.pure h1 (jN (e:=zk (.int k (VF k a))) ho ?_) (EImp.refl _)
   rw[←hx]
   show (zan P src dst (.int k' a)).is _
   unfold zan
   rw[hd,hs]; rfl
  ·exact h1.elim
 ·rename_i hd hs
  rcases vq (show qp (fun _ _=>K (kev τ x) zm nx [] []) (BadN 161) (kev τ x) from h) with ⟨n,s,ha,h1⟩ | ⟨_,h1⟩
  ·refine Out.pure h1 (jN (e:=zk (kev τ x).v) ho ?_) (EImp.refl _)
   rw[←hx,ha]
   show (vM P src dst (.str (zL n s)) (am zm)).is _
   unfold vM
   rw[hd,hs]; rfl
  ·exact h1.elim
 ·rename_i e hd hs
  split at h
  ·rename_i he
   rcases vq (show qp (fun n s=>K (.ro true false .sc 0 n (.pk .u8 n s)) zm nx [] []) (BadN 162) (kev τ x) from h) with ⟨n,s,ha,h1⟩ | ⟨_,h1⟩
   ·rw[ha] at hx
    have hsz:(zL n s).size=n:=by show ((List.range n).map _).length=n; simp
    refine Out.pure h1 (jN (e:=zk (.ro true false .sc (zL n s).size (yO (zL n s)))) ho ?_) ?_
    ·rw[←hx]
     show (vM P src dst (.str (zL n s)) (am zm)).is _
     unfold vM
     rw[hd,hs]
     simp only[he]; rfl
    ·refine EImp.val ?_
     rw[hsz,Xx]
     refine Imp.roE fun i hi=>?_
     show V.int .u8 ((((List.range n).map fun i=>UInt8.ofNat (pkr .u8 s i)).getD i 0).toNat:Int)=.int .u8 (.ofNat (pkr .u8 s (0 + i)))
     rw[List.getD_eq_getElem?_getD,List.getElem?_map,List.getElem?_range hi,Option.map_some,Option.getD_some,UInt8.toNat_ofNat',Nat.zero_add]
     have:=qi .u8 s i
     simp only[mdl] at this
     rw[Nat.mod_eq_of_lt (by omega)]; rfl
   ·exact h1.elim
  ·exact (show BadN 163 from h).elim
 ·rename_i e hd hs
  split at h
  ·rename_i he
   obtain⟨e',off,len,c,rd,f,h1,h2,h3⟩:=WP (show QH .sc (kev τ x) zm (zvM zm nx K) from h)
   obtain⟨h4,h5⟩:=ze h1
   obtain rfl:=jB h4
   have hnint:zbI (kev τ x).v=false:=by
    unfold yf at h2
    split at h2
    ·rename_i hv; rw[hv]; rfl
    unfold Zs at h2
    split at h2
    ·rename_i hv; rw[hv]; rfl
    ·rename_i hv; rw[hv]; rfl
    ·rename_i hv; rw[hv]; rfl
    ·cases h2
   have fin:∀(y:Nat) (g:Nat→Int),K (.str len y) zm nx [] rd→(∀ j,j < len→f j=.int .u8 (g j))→(∀ j,j < len→g j=.ofNat (pkr .u8 y j))→Out P B o τ lo zm nx K:=by
    intro y g hk hg hgy
    have hu:=W2 (f:=f) (g:=g) len 0 (fun j hj=>by rw[Nat.zero_add]; exact hg j hj)
    refine Out.pure hk (jN (e:=⟨.str (strOfNums ((List.range len).map fun j=>g (0 + j))),[],[],rd⟩) ho ?_) ?_
    ·unfold Wo
     rw[←hx,hnint]
     show (vM P src dst (kev τ x).v (am zm)).is _
     unfold vM
     rw[hs,hd]
     simp only[he,h2,hu]; rfl
    ·refine EImp.val ?_
     have:strOfNums ((List.range len).map fun j=>g (0 + j))=zL len y:=by
      unfold strOfNums zL
      congr 2
      rw[List.map_map]
      refine List.map_congr_left fun j hj=>?_
      rw[List.mem_range] at hj
      show UInt8.ofNat (g (0 + j)).toNat=_
      rw[Nat.zero_add,hgy j hj]; rfl
     rw[this]; exact Imp.refl _
   cases hl:Nat.beq len 0 with
   | true =>
    obtain rfl:=zI hl
    exact fin 0 (fun _=>0) h5 (fun j hj=>by omega) (fun j hj=>by omega)
   | false =>
    rw[hl] at h5
    rcases xp (show wh (fun k _ x=>chk (xa k .u8) 158 (fN (pkx .u8 x off len) fun y=>K (.str len y) zm nx [] rd)) (zq6 zm nx K off len c rd) c from h5) with ⟨k,n,y,rfl,h6⟩ | ⟨_,h6⟩
    ·obtain⟨h7,h8⟩:=ze h6
     obtain rfl:=zD h7
     rw[zU] at h8
     refine fin _ (fun j=>.ofNat (pkr .u8 y (off + j))) h8 (fun j hj=>?_) fun j hj=>by rw[v3 hj]
     rw[h3 j hj,xU]; rfl
    ·unfold zq6 at h6
     cases hcl:Gl.cl with
     | true=>rw[hcl] at h6; exact (show BadN 159 from h6).elim
     | false =>
      rw[hcl] at h6
      obtain⟨h7,h8⟩:=za.1 h6
      have h9:=fun j (hj:j < len)=>zvL (xE.1 h7 j hj)
      have hb:∀ i,byK c off i < 256:=fun i=>Nat.mod_lt _ (by omega)
      refine fin _ (fun j=>.ofNat (byK c off j)) h8 (fun j hj=>?_) fun j hj=>by rw[ZL hb hj]
      have e:byK c off j=zlV (zQ (Nat.add off j) c):=Nat.mod_eq_of_lt (h9 j hj).2
      rw[h3 j hj,e]
      exact congrArg KV.v (h9 j hj).1
  ·exact (show BadN 163 from h).elim
 ·rename_i e e2 hd hs
  split at h
  ·rename_i heq
   subst heq
   split at h
   ·rename_i he
    rcases vu (show yA (kMk lo zm nx K) (BadN 219) (kev τ x) from h) with ⟨id,e',len,ha,h1⟩ | ⟨_,h1⟩
    ·obtain⟨kd,sh,v,hb,h2⟩:=xL h1
     rw[ha] at hx
     cases kd with
     | box=>exact (show BadN 214 from h2).elim
     | dead=>exact (show BadN 218 from h2).elim
     | lp k ps x y=>exact (show BadN 218 from h2).elim
     | mp=>exact (show BadN 218 from h2).elim
     | row et =>
      obtain⟨h3,h4⟩:=ze h2
      simp only[zd] at h3
      obtain⟨q1,q2,q3⟩:=h3
      obtain rfl:=jB q1
      rcases xp h4 with ⟨k,n,y,rfl,h5⟩ | ⟨_,h5⟩
      ·obtain⟨h6,h7⟩:=ze h5
       obtain rfl:=zD h6
       have hu:=W2 (f:=fun i=>V.int .u8 (pkg .u8 y i)) (g:=fun i=>pkg .u8 y i) len 0 (fun j hj=>rfl)
       refine Out.up h7 (Nat.le_of_ble_eq_true q2) (jN (e:=⟨.ro true false .sc len fun i=>V.int .u8 (dec .u8 (pkr .u8 y i)),[(id,⟨.dead,sh,.unk⟩)],[],[]⟩) ho ?_) ?_
       ·rw[←hx]
        show (vM P _ _ (.row id .sc len) (am zm)).is _
        have he2:e2=e:=by rw[hd] at hs; cases hs; rfl
        subst he2
        unfold vM
        rw[hd]
        simp only[if_true,he,zJ hb,KBlk.b,wI]
        rw[hu]
        simp only[q3,if_true]
        rfl
       ·refine EImp.up1 ?_ (BImp.refl _)
        rw[Xx]
        refine Imp.roE fun i hi=>?_
        show _=V.int .u8 (dec .u8 (pkr .u8 y (0 + i)))
        rw[Nat.zero_add]
      ·rcases jb h5 with ⟨n,d,t,rfl,h5⟩ | ⟨_,h5⟩
       ·obtain⟨h6,h7⟩:=ze h5
        have hu:=W2 (f:=fun i=>t.atv (enc i) d.v) (g:=fun i=>intOf (t.atv (enc i) d.v)) len 0 (fun j hj=>by
         rw[Nat.zero_add]
         have h8:=zq4 (zb0 h6 j hj)
         rw[show (zQ j (.ar n d t)).v=t.atv (enc j) d.v from ZN d j t] at h8
         exact h8)
        refine Out.up h7 (Nat.le_of_ble_eq_true q2) (jN (e:=⟨.ro true false .sc len fun i=>t.atv (enc i) d.v,[(id,⟨.dead,sh,.unk⟩)],[],[]⟩) ho ?_) ?_
        ·rw[←hx]
         show (vM P _ _ (.row id .sc len) (am zm)).is _
         have he2:e2=e:=by rw[hd] at hs; cases hs; rfl
         subst he2
         unfold vM
         rw[hd]
         simp only[if_true,he,zJ hb,KBlk.b,ZM]
         rw[hu]
         simp only[q3,if_true]
         rfl
        ·refine EImp.up1 ?_ (BImp.refl _)
         rw[Xx]
         refine Imp.roE fun i hi=>?_
         rw[Nat.zero_add]
         rfl
       ·exact h5.elim
    ·exact h1.elim
   ·exact (show BadN 163 from h).elim
  ·exact (show BadN 163 from h).elim
 ·exact (show BadN 163 from h).elim
def arS (P:Program) (t:TypeId):Option Nat:=match P.underlying t with
 | some (.array n _)=>some n
 | _=>none
def zvN (n off:Nat) (c:KV) (K:KV→Prop):Prop:=wh (fun k _ x=>fN (pkx k x off n) fun x=>K (.pk k n x)) (W5 (fun _ d t=>@Bool.rec (fun _=>Prop) (K (.ar n (jW d off t) (arT (fun i=>jW d (Nat.add off i) t) n))) (K (.ar n d t)) (Nat.beq off 0)) (Jh (fun _ f=>K (.ar n (f off) (arT (fun i=>f (Nat.add off i)) n))) (BadN 165) c) c) c
def zvO (P:Program) (t:TypeId) (x:KV) (zm:KZ) (nx:Nat) (K:KT):Prop:=os 166 (fun n=>Xu (fun u _ e off len c=>cnd (Nat.blt 0 n&&Nat.ble n len) (zvN n off c fun c=>K (.ref u (.arr n e) c) zm nx [] [])) (Jg (fun id p e off len _=>cnd (Nat.blt 0 n&&Nat.ble n len) (zaB p (.sub off n) fun p=>K (.ptr id p (.arr n e)) zm nx [] [])) (BadN 167) x) x) (arS P t)
theorem zq7 {t:TypeId}{x:Operand}(ho:o.op=.sliceToArrayPointer t x) (h:zvO P t (kev τ x) zm nx K):Out P B o τ lo zm nx K:=by
 have hx:=zK τ x
 obtain⟨n,h1,h2⟩:=xg h
 obtain⟨el,hu⟩:∃ el,P.underlying t=some (.array n el):=by
  unfold arS at h1
  split at h1
  ·cases h1; exact⟨_,‹_›⟩
  ·cases h1
 rcases xJ h2 with ⟨u,cl,e,off,len,c,hp,h3⟩ | ⟨_,h3⟩
 ·obtain⟨h4,h5⟩:=za.1 h3
  rw[hp] at hx
  have fin:∀ c':KV,K (.ref u (.arr n e) c') zm nx [] []→Imp (.arr n fun i=>c.v.step (.idx (off + i))) c'.v→Out P B o τ lo zm nx K:=fun c' hk hi=>by
   refine Out.pure hk (zgE (e:=zk (.ref u (.arr n e) (.arr n fun i=>c.v.step (.idx (off + i))))) ho ?_) (EImp.val (Imp.refE hi))
   unfold zll
   rw[hu,←hx]
   exact qf h4
  rcases xp h5 with ⟨k,m,y,rfl,h6⟩ | ⟨_,h6⟩
  ·rw[zU] at h6
   refine fin _ h6 (Imp.arrE fun i hi=>?_)
   show V.int k (dec k (pkr k y (off + i)))=V.int k (dec k (pkr k _ i))
   rw[v3 hi]
  ·rcases jb h6 with ⟨m,d,t',rfl,h7⟩ | ⟨_,h7⟩
   ·cases h8:Nat.beq off 0 with
    | true =>
     rw[h8] at h7
     obtain rfl:=zI h8
     exact fin _ h7 (Imp.arrE fun i hi=>by rw[Nat.zero_add]; rfl)
    | false =>
     rw[h8] at h7
     refine fin _ h7 (Imp.arrE fun i hi=>?_)
     show t'.atv (enc (off + i)) d.v=(arT (fun i=>jW d (Nat.add off i) t') n).atv (enc i) (jW d off t').v
     rw[y5 _ _ n i hi]
     exact (ZN d (off + i) t').symm
   ·rcases jU h7 with ⟨m,f,rfl,h8⟩ | ⟨_,h8⟩
    ·refine fin _ h8 (Imp.arrE fun i hi=>?_)
     show (f (off + i)).v=(arT (fun i=>f (Nat.add off i)) n).atv (enc i) (f off).v
     rw[y5 _ _ n i hi]; rfl
    ·exact h8.elim
 rcases ve h3 with ⟨id,p,e,off,len,cap,hp,h4⟩ | ⟨_,h3⟩
 ·obtain⟨h5,h6⟩:=za.1 h4
  rw[wz] at h6
  rw[hp] at hx
  rw[Bool.and_eq_true,Nat.blt_eq,Nat.ble_eq] at h5
  exact Out.pure h6 ⟨zbF (ρ:=opv Gl.G (tv' τ)) ho hx.symm hu h5.1 h5.2,UpIn.nil⟩ (EImp.refl _)
 ·exact h3.elim
end
end
end Go.K
namespace Go.K
open Go.Ab Go.RowKit Go.Y
noncomputable section
variable [KGl]
section
variable {P:Program}{B:Nat}{o:Oper}{τ:Nat→KV}{lo:Nat}{zm:KZ}{nx:Nat}{K:KT}
def zvP (P:Program) (f:FuncId):Prop:=False
def zos (lo:Nat) (P:Program) (t t':TypeId) (x y:KV) (zm:KZ) (nx:Nat) (K:KT):Prop:=zdy lo P t t' x y zm nx K
theorem zlX {t t':TypeId}{x y:Operand}(ho:o.op=.call ⟨.builtin .append,#[x,y],#[t,t']⟩) (h:zos lo P t t' (kev τ x) (kev τ y) zm nx K):Out P B o τ lo zm nx K:=zfv ho h
def zhW (x:KV) (zm:KZ) (nx:Nat) (K:KT):Prop:=BadN 350
theorem zlY {ts:Array TypeId}{x:Operand}(ho:o.op=.call ⟨.builtin .unsafeSliceData,#[x],ts⟩) (h:zhW (kev τ x) zm nx K):Out P B o τ lo zm nx K:=h.elim
def zhX (P:Program) (lo:Nat) (pt:TypeId) (x y:KV) (zm:KZ) (nx:Nat) (K:KT):Prop:=BadN 351
theorem zlZ {pt it:TypeId}{x y:Operand}(ho:o.op=.call ⟨.builtin .unsafeString,#[x,y],#[pt,it]⟩) (h:zhX P lo pt (kev τ x) (kev τ y) zm nx K):Out P B o τ lo zm nx K:=h.elim
def zhY (lo:Nat) (P:Program) (src dst:TypeId) (x:KV) (zm:KZ) (nx:Nat) (K:KT):Prop:=zhU lo P src dst x zm nx K
theorem zhZ {src dst:TypeId}{x:Operand}(ho:o.op=.convert src dst x) (h:zhY lo P src dst (kev τ x) zm nx K):Out P B o τ lo zm nx K:=zlW ho h
def zh0 (P:Program) (op:BinOp) (t:TypeId) (cst:Bool) (x y:KV) (zm:KZ) (nx:Nat) (K:KT):Prop:=zol P op t cst x y zm nx K
theorem zdO {op:BinOp}{t t':TypeId}{x y:Operand}(ho:o.op=.binOp op t x y t') (h:zh0 P op t (zaI x||zaI y) (kev τ x) (kev τ y) zm nx K):Out P B o τ lo zm nx K:=zlK ho h
def zq8 (op:BinOp):Bool:=@BinOp.rec (fun _=>Bool) false true false false false false false false false false false false false false false false false op
def zot (x y:KV) (zm:KZ) (nx:Nat) (K:KT):Prop:=z8 (fun k a=>z8 (fun k' b=>chk (nd (xa k k') (sgn k)) 60 (on2 (fun x y=>cnd (Nat.ble y x) (V8 k (Nat.sub x y) fun r=>K (.int k r) zm nx [] [])) (BadN 352) a b)) (BadN 69) y) (BadN 353) x
def zou (sc:Bool) (P:Program) (op:BinOp) (t:TypeId) (cst:Bool) (x y:KV) (zm:KZ) (nx:Nat) (K:KT):Prop:=@Bool.rec (fun _=>Prop) (zh0 P op t cst x y zm nx K) (@Bool.rec (fun _=>Prop) (zh0 P op t cst x y zm nx K) (zot x y zm nx K) (zq8 op)) sc
theorem zl0 {t:TypeId}{x y:KV}(h:zot x y zm nx K):zq2 P .sub t x y zm nx K:=by
 rcases zz h with ⟨k,a,rfl,h1⟩ | ⟨_,h1⟩
 ·rcases zz h1 with ⟨k',b,rfl,h2⟩ | ⟨_,h2⟩
  ·obtain⟨h3,h4⟩:=ze h2
   obtain⟨h5,h6⟩:=zd.1 h3
   have hP:zhH k a b fun r=>K (.int k r) zm nx [] []:=by
    cases a with
    | negSucc x=>exact (show BadN 352 from h4).elim
    | ofNat x =>
     cases b with
     | negSucc y=>exact (show BadN 352 from h4).elim
     | ofNat y =>
      obtain⟨q1,q2⟩:=za.1 (show cnd (Nat.ble y x) (V8 k (Nat.sub x y) fun r=>K (.int k r) zm nx [] []) from h4)
      show @Bool.rec (fun _=>Prop) _ (@Bool.rec (fun _=>Prop) _ (V8 k (Nat.sub x y) fun r=>K (.int k r) zm nx [] []) (sgn k)) (Nat.ble y x)
      rw[q1,h6]; exact q2
   show bP VD zhH k a k' b fun r=>K r zm nx [] []
   unfold bP
   rw[h5]
   show @Bool.rec (fun _=>Prop) (zhH k a b fun r=>K (.int k r) zm nx [] []) (fI (VD k a b) fun r=>K (.int k r) zm nx [] []) Gl.cl
   cases Gl.cl with
   | false=>exact hP
   | true =>
    show fI (VD k a b) fun r=>K (.int k r) zm nx [] []
    rw[jV]
    exact zhI hP
  ·exact h2.elim
 ·exact h1.elim
theorem zl1 {sc:Bool}{op:BinOp}{t t':TypeId}{x y:Operand}(ho:o.op=.binOp op t x y t') (h:zou sc P op t (zaI x||zaI y) (kev τ x) (kev τ y) zm nx K):Out P B o τ lo zm nx K:=by
 cases sc with
 | false=>exact zdO ho h
 | true =>
  cases op
  case sub=>exact zhO ho (zl0 h)
  all_goals exact zdO ho h
end
end
end Go.K
namespace Go.K
open Go.Ab Go.RowKit Go.Y
noncomputable section
variable [KGl]
section
variable {P:Program}{B:Nat}{o:Oper}{τ:Nat→KV}{lo:Nat}{zm:KZ}{nx:Nat}{K:KT}
def zdr (lo:Nat) (P:Program) (t:TypeId) (x:KV) (low hi mx:Option KV) (zm:KZ) (nx:Nat) (K:KT):Prop:=zht P t x low hi mx zm nx K
theorem zfp {t:TypeId}{x:Operand}{low hi mx:Option Operand}(ho:o.op=.slice t x low hi mx) (h:zdr lo P t (kev τ x) (low.map (kev τ)) (hi.map (kev τ)) (mx.map (kev τ)) zm nx K):Out P B o τ lo zm nx K:=zhu ho h
def zgN (lo:Nat) (P:Program) (t t':TypeId) (x y:KV) (zm:KZ) (nx:Nat) (K:KT):Prop:=zos lo P t t' x y zm nx K
theorem zlo {t t':TypeId}{x y:Operand}(ho:o.op=.call ⟨.builtin .append,#[x,y],#[t,t']⟩) (h:zgN lo P t t' (kev τ x) (kev τ y) zm nx K):Out P B o τ lo zm nx K:=zlX ho h
def zbL (lo:Nat) (P:Program) (t:TypeId) (x:KV) (zm:KZ) (nx:Nat) (K:KT):Prop:=BadN 412
theorem zgO {t:TypeId}{x:Operand}(ho:o.op=.call ⟨.builtin .clear,#[x],#[t]⟩) (h:zbL lo P t (kev τ x) zm nx K):Out P B o τ lo zm nx K:=h.elim
end
end
end Go.K
namespace Go.K
open Go.Ab Go.RowKit Go.Y
noncomputable section
section
variable [Gl] {P:Program}{B:Nat}
def RVal (P:Program) (τ:Nat→V) (μ:Mem) (r:ResultVar) (v:V):Prop:=match r with
 | .tmp t=>τ t=v
 | .cell p t=>∃ s d id q blk,z5 P t=some s∧P.underlying t=some d∧τ p=.ptr id q s∧μ id=some blk∧blk.alive=true∧blk.v.path q=v
theorem RVal.s {H N:Nat}{C:Ctx}{M:Mem}{τ:Nat→V}{μ:Mem}{nx:Nat}{a:Act}(hz:GR B H C M μ nx) (ht:GT C τ a N) {r:ResultVar}{v:V}(h:RVal P τ μ r v):∃ val,(rdV a r).run P C.w=.ok val C.w∧R C v (.val val):=by
 cases r with
 | tmp t=>obtain rfl:τ t=v:=h; exact⟨_,rfl,ht.tv t⟩
 | cell p t =>
  obtain⟨s,d,id,q,blk,hs,hd,hp,hb,ha,rfl⟩:=h
  have hr:=ht.tv p
  rw[hp] at hr
  obtain⟨hal',g,off,h5,h6,h7⟩:=hr
  have h7':a.tmps.getD p undef=.pointer (some ⟨g,off,none⟩):=h7
  obtain⟨h8,_⟩:=BR.at (hz.sr.mem _ _ (hz.sub _ _ hb)) ha h5 h6
  obtain⟨val,h9,h10⟩:=vO hs hd h8
  exact⟨val,by simp only[rdV,h7']; simpa [asAddr] using h9,h10⟩
def RVals (P:Program) (τ:Nat→V) (μ:Mem):List ResultVar→V→Prop
 | [],v=>v=.nl
 | r::l,v=>∃ x w,v=.cons x w∧RVal P τ μ r x∧RVals P τ μ l w
theorem RVals.s {H N:Nat}{C:Ctx}{M:Mem}{τ:Nat→V}{μ:Mem}{nx:Nat}{a:Act}(hz:GR B H C M μ nx) (ht:GT C τ a N):∀ {l:List ResultVar}{v:V},RVals P τ μ l v→∃ xs,(l.mapM (rdV a)).run P C.w=.ok xs C.w∧R C v (.list xs)∧xs.length=l.length
 | [],v,h=>by obtain rfl:v=.nl:=h; exact⟨[],rfl,rfl,rfl⟩
 | r::l,v,h=>by
  obtain⟨x,w,rfl,h1,h2⟩:=h
  obtain⟨x,e1,r1⟩:=h1.s hz ht
  obtain⟨xs,e2,r2,hl⟩:=RVals.s hz ht h2
  refine⟨x::xs,?_,⟨x,xs,rfl,r1,r2⟩,by simp [hl]⟩
  rw[List.mapM_cons,Sem.run_bind,e1,Result.andThen_ok,Sem.run_bind,e2,Result.andThen_ok,Sem.run_pure]
def RAll (P:Program) (τ:Nat→V) (μ:Mem) (l:List ResultVar) (v:V):Prop:=match l with
 | [r]=>RVal P τ μ r v
 | l=>∃ w,v=.tup w∧RVals P τ μ l w
theorem RAll.s {H N:Nat}{C:Ctx}{M:Mem}{τ:Nat→V}{μ:Mem}{nx:Nat}{a:Act}(hz:GR B H C M μ nx) (ht:GT C τ a N) {fn:Func}{v:V}(h:RAll P τ μ fn.results.toList v):∃ val,(results fn a.tmps).run P C.w=.ok val C.w∧R C v (.val val):=by
 have key:∀ {w:V},RVals P τ μ fn.results.toList w→∃ xs:List Value,(fn.results.mapM (rdV a)).run P C.w=.ok xs.toArray C.w∧R C w (.list xs)∧xs.length=fn.results.toList.length:=by
  intro w hw
  obtain⟨xs,h1,h2,h3⟩:=hw.s hz ht
  refine⟨xs,?_,h2,h3⟩
  have:fn.results=fn.results.toList.toArray:=by simp
  rw[this,List.mapM_toArray,map_eq_pure_bind,Sem.run_bind,h1]; rfl
 unfold RAll at h
 split at h
 ·rename_i r hr
  obtain⟨xs,h1,h2,h3⟩:=key (w:=.cons v .nl) (by rw[hr]; exact⟨v,.nl,rfl,h,rfl⟩)
  obtain⟨x,xs',rfl,h4,h5⟩:=h2
  rw[hr] at h3
  have h6:xs'=[]:=by simpa using h3
  subst h6
  refine⟨x,?_,h4⟩
  rw[XH,Sem.run_bind,h1]; rfl
 ·rename_i hne
  obtain⟨w,rfl,hw⟩:=h
  obtain⟨xs,h1,h2,h3⟩:=key hw
  refine⟨.tuple xs.toArray,?_,xs.toArray,rfl,by simpa using h2⟩
  rw[XH,Sem.run_bind,h1]
  have h4:¬ xs.toArray.size=1:=by
   intro h5
   simp only[List.size_toArray] at h5
   rw[h5] at h3
   match hm:fn.results.toList,h3 with
   | [r],_=>exact hne r hm
   | [],h3=>simp at h3
   | _::_::_,h3=>simp at h3
  rw[Result.andThen_ok,dif_neg h4,Sem.run_pure]
omit [Gl] in
theorem GT.enter {C:Ctx}{l:List V}{vs:List Value}(h:R C (mkL l) (.list vs)) (n:Nat) {τ:Nat→V}(h1:∀ t,τ t=if t < l.length then l.getD t .unk else .unk) :
  GT C τ { tmps:=vs.toArray++Array.replicate (n - vs.toArray.size) undef,defers:=[] } (l.length + (n - l.length)):=by
 have h2:=YT.enter h n
 refine⟨fun t=>?_,by rw[h2.size,(wm h).1]; exact Nat.le_refl _⟩
 have:=h2.tv t
 rw[Z9] at this
 rw[h1]
 by_cases ht:t < l.length
 ·rw[if_pos (by omega)] at this
  rw[if_pos ht]; exact this
 ·rw[if_neg ht]; trivial
def zhV (l:List V) (t:Nat):V:=if t < l.length then l.getD t .unk else .unk
theorem GR.drop {H:Nat}{C:Ctx}{M μ:Mem}{nx id D:Nat}{blk:Blk}(hz:GR B H C M μ nx) (hm:M id=some blk) (hl:blk.live=true) (hb:xe (C.sv id)=some D) (hμ:μ id=none) (o:Obj) :
  GR B H { C with w:=vv C.w D o } (upd M id none) μ nx∧Kp B C { C with w:=vv C.w D o }:=by
 have hlt:=hz.sr.lt hm hl hb
 have hk:Kp B C { C with w:=vv C.w D o }:=⟨⟨fun _ h=>h,fun _ _=>rfl,fun _ _=>rfl,fun _ _ h=>h,fun u b hb'=>qN (fun e=>hz.sr.own id blk D hm hl hb u (e▸hb'))⟩,
  ⟨rfl,rfl,rfl,by show C.w.heap.size≤(vv C.w D o).heap.size; rw[Xo]; exact Nat.le_refl _,fun k hk=>qN (by omega)⟩,fun _ _ h=>.inl (.inl h)⟩
 refine⟨⟨hz.sr.next hk (fun i=>i=id) (fun i hi=>zf _ _ hi) ?_ ?_ ?_ ?_ ?_,fun i b hi=>?_,hz.al⟩,hk⟩
 ·intro i blk1 b1 hi hm1 ha1 hb1
  exact qN fun e=>hi (hz.sr.sep i id blk1 blk b1 hm1 ha1 hm hl hb1 (e▸hb))
 ·intro i blk1 hi hm1
  subst hi; rw[zp] at hm1; cases hm1
 ·intro u b hb'
  show b < (vv C.w D o).heap.size
  rw[Xo]; exact hz.sr.okLt u b hb'
 ·intro i i' b1 b2 b h1 h2 h3 h4 hi
  subst hi; rw[zp] at h1; cases h1
 ·intro i b1 b h1 h2 h3 u hok
  by_cases hi:i=id
  ·subst hi; rw[zp] at h1; cases h1
  ·rw[zf _ _ hi] at h1; exact hz.sr.own i b1 b h1 h2 h3 u hok
 ·by_cases hi':i=id
  ·subst hi'; rw[hμ] at hi; cases hi
  ·rw[zf _ _ hi']; exact hz.sub i b hi
theorem zdN {H:Nat}{C:Ctx}{M μ μ':Mem}{nx nx' N:Nat}{τ':Nat→V}{fn:Func}{v:V}{a:Act}(hnx:nx'≤H) (hv:RAll P τ' μ' fn.results.toList v) :
  ∀(ds:List Deferred) (C1:Ctx) (M1:Mem),(∀ d∈ds,∃ id D k ps x y sh,(nx≤id∧id < nx')∧μ' id=none∧M1 id=some ⟨.lp k ps x y,sh,.nilf⟩∧C1.sv id=.pointer (some ⟨D,0,none⟩)∧d=⟨.collected D,#[]⟩)→ds.Nodup →
   GR B H C1 M1 μ' nx'→GC B H C M μ nx C1 M1 μ' nx'→GT C1 τ' a N →
   V6 P fn a.tmps (fun e w'=>∃ val,e=.returned val∧∃ C' M',C'.w=w'∧R C' v (.val val)∧GR B H C' M' μ' nx'∧GC B H C M μ nx C' M' μ' nx') ds C1.w
 | [],C1,M1,_,_,hz,hc,ht=>by
  obtain⟨val,q1,q2⟩:=hv.s hz ht
  exact⟨val,q1,val,rfl,C1,M1,rfl,q2,hz,hc⟩
 | d::ds,C1,M1,hd,hn,hz,hc,ht=>by
  obtain⟨id,D,k,ps,x,y,sh,hid,h1,h2,h3,h4⟩:=hd d (by simp)
  have hbr:=hz.sr.mem id _ h2
  have hD:B≤D∧C1.w.heap[D]?=some (.deferred (some [])):=by
   rcases (show LoopR B C1 id k ps x y .nilf from hbr) with ⟨_,_,_,_,_,_,_,_,_,e,_⟩ | ⟨_,D',e1,e2,e3⟩
   ·cases e
   ·rw[h3] at e1; cases e1; exact⟨e2,e3⟩
  refine⟨D,h4,hD.2,?_⟩
  obtain⟨q1,q2⟩:=hz.drop h2 rfl (by rw[h3]; rfl) h1 (.deferred none)
  rw[List.nodup_cons] at hn
  refine zdN hnx hv ds _ (upd M1 id none) (fun d' hd'=>?_) hn.2 q1 ⟨hc.kp.trans q2,hc.al,fun i hi hμ=>?_⟩ (ht.keep q2.toKeep)
  ·obtain⟨id',D',k',ps',x',y',sh',hid',g1,g2,g3,g4⟩:=hd d' (by simp [hd'])
   have hne:id'≠id:=by
    intro e; subst e
    rw[h3] at g3; cases g3
    exact hn.1 (by rw[h4,←g4]; exact hd')
   exact⟨id',D',k',ps',x',y',sh',hid',g1,by rw[zf _ _ hne]; exact g2,g3,g4⟩
  ·obtain⟨r1,r2⟩:=hc.fr i hi hμ
   exact⟨by rw[zf _ _ (by omega)]; exact r1,r2⟩
theorem GCall.body {fid:FuncId}{fn:Func}{c:Code}{l:List V}{μ μ':Mem}{nx nx' mx':Nat}{τ τ':Nat→V}{e:Exit}{v:V}(hfn:P.funcs[fid]?=some fn) (hb:fn.body=some c) (h1:zln (zhV l) τ)
  (h:GRuns P B c τ μ nx (l.length + (fn.ntmps - l.length)) e τ' μ' nx' mx') (he:e=.normal∨e=.ret) (hv:RAll P τ' μ' fn.results.toList v):GCall P B fid l μ nx v μ' nx' mx':=by
 intro H C M vals hH hH2 hz h6
 have hent:=(GT.enter (τ:=zhV l) h6 fn.ntmps fun _=>rfl).imp h1
 refine yy hfn hb (wpIn_mono (h none (nx + 1) H C M _ hH hH2 hz (by have:=(wm h6).1; simpa [this] using hent) ⟨(fun d hd=>((by cases hd))),List.nodup_nil,Nat.le_refl _,(fun l hl=>((by cases hl)))⟩) ?_)
 rintro e' a w' ⟨rfl,C',M',rfl,hf⟩
 exact⟨he,zdN hH hv a.defers C' M' (fun d hd=>by
  obtain⟨id,D,k,ps,x,y,sh,h1,h2⟩:=hf.sd.df d hd
  exact⟨id,D,k,ps,x,y,sh,⟨by omega,h1.2.elim (fun h=>h) fun h=>absurd h.1 (by omega)⟩,h2⟩) hf.sd.nd hf.yr hf.yc hf.yt⟩
def FnArgs (τ:Nat→V) (f:Operand) (args:Array Operand) (fid:FuncId) (L:List V):Prop :=
 ∀(C:Ctx) (ρc:Operand→Value),R C (opv Gl.G τ f) (.val (ρc f))→R C (mkL (args.toList.map (opv Gl.G τ))) (.list (args.toList.map ρc))→∃ fs cs:Array Value,ρc f=.func (.func fid) fs cs∧R C (mkL L) (.list (fs.toList++args.toList.map ρc++cs.toList))
theorem FnArgs.plain {τ:Nat→V}{f:Operand}{args:Array Operand}{fid:FuncId}{caps:V}(hf:opv Gl.G τ f=.fn fid caps) (hlt:fid < 1073741824):FnArgs τ f args fid (args.toList.map (opv Gl.G τ)++unL caps):=by
 intro C ρc h0 h3
 rw[hf] at h0
 obtain⟨cs,h1,h2⟩:=R.fn0 hlt h0
 exact⟨#[],cs,h1,X5 h3 (X8 h2)⟩
theorem FnArgs.meth {τ:Nat→V}{f:Operand}{args:Array Operand}{fid:FuncId}{first rest:V}(hf:opv Gl.G τ f=.fn fid (.cons (.tup first) rest)) (hlt:¬ fid < 1073741824) (hlt2:fid < 2147483648):FnArgs τ f args (Vu fid) (unL first++(args.toList.map (opv Gl.G τ)++unL rest)):=by
 intro C ρc h0 h3
 rw[hf] at h0
 obtain⟨fs,cs,h1,h2,h4⟩:=R.fn1 hlt hlt2 h0
 refine⟨fs,cs,h1,?_⟩
 rw[List.append_assoc]
 exact X5 (X8 h2) (X5 h3 (X8 h4))
omit [Gl] in
theorem zb3 {o:Oper}{f:Operand}{args:Array Operand}{ts:Array TypeId}{ρc:Operand→Value}{fid:FuncId}{fs cs:Array Value}{fn:Func}{w:World}(ho:o.op=.call ⟨.value f,args,ts⟩) (h1:ρc f=.func (.func fid) fs cs) (hfn:P.funcs[fid]?=some fn)
  (hname:(fn.name == "runtime.NumGoroutine")=false) (hbody:fn.body.isNone=false):(execOp ρc o).run P w=.ok (.enter fid (fs.toList++args.toList.map ρc++cs.toList).toArray) w:=by
 simp only[execOp,ho,resolve,h1,Deferred.ofValue,Sem.run_bind,Sem.run_pure,Result.andThen_ok,invoke,callFunc,run_program,hfn,hname,hbody,Bool.false_eq_true,if_false]
 simp
theorem GCall.does {o:Oper}{f:Operand}{args:Array Operand}{ts:Array TypeId}{τ:Nat→V}{μ μ':Mem}{nx nx' mx':Nat}{fid:FuncId}{fn:Func}{L:List V}{v:V}(ho:o.op=.call ⟨.value f,args,ts⟩) (hf:FnArgs τ f args fid L)
  (hfn:P.funcs[fid]?=some fn) (hname:(fn.name == "runtime.NumGoroutine")=false) (hbody:fn.body.isNone=false) (h:GCall P B fid L μ nx v μ' nx' mx'):GDoes P B o τ μ nx v μ' nx' mx':=by
 intro H C M ρc hH hH2 hz hx
 obtain⟨h0,h3⟩:=Qo ho hx
 obtain⟨fs,cs,h1,h2⟩:=hf C ρc h0 h3
 unfold Does
 rw[zb3 ho h1 hfn hname hbody]
 exact (h H C M _ hH hH2 hz h2).mono fun e w' ⟨v,he,hp⟩=>⟨v,he,hp⟩
theorem GCall.reset (hgn:∀ g,vJ (Gl.G g)=true) {fid:FuncId}{l:List V}{μ μ':Mem}{nx nx' mx':Nat}{v:V}(h:GCall P B fid l μ nx v μ' nx' mx') (hmb:MB μ nx) (hlow:∀ id,id < nx→μ' id=μ id) (hv:v.bel nx) (hle:nx≤nx') {mx2:Nat}(h1:nx'≤mx2) (h2:mx'≤mx2):GCall P B fid l μ nx v μ nx mx2:=by
 intro H C M vals hH hH2 hz hl
 refine (h H C M vals (by omega) (by omega) hz hl).mono ?_
 rintro e w' ⟨val,he,C1,M1,hw,hR,h1,hc⟩
 have hold:∀ id,C.al id→id < nx∨H≤id:=fun id hid=>by
  rcases Nat.lt_or_ge id nx with h | h
  ·exact .inl h
  ·rcases Nat.lt_or_ge id H with h' | h'
   ·exact absurd hid (hz.al id h h')
   ·exact .inr h'
 let M2:Mem:=fun id=>if id < nx∨H≤id then M1 id else none
 have hM2:∀ id c,M2 id=some c→M1 id=some c∧M id=some c∧(id < nx∨H≤id):=by
  intro id c hx
  replace hx:(if id < nx∨H≤id then M1 id else none)=some c:=hx
  by_cases hi:id < nx∨H≤id
  ·rw[if_pos hi] at hx
   refine⟨hx,?_,hi⟩
   cases hm:μ id with
   | none=>rw[←(hc.fr id hi hm).1]; exact hx
   | some b =>
    have q1:id < nx:=by
     rcases Nat.lt_or_ge id nx with q | q
     ·exact q
     ·rw[hmb id q] at hm; cases hm
    have q2:=h1.sub id b (by rw[hlow id q1]; exact hm)
    rw[q2] at hx; cases hx
    exact hz.sub id _ hm
  ·rw[if_neg hi] at hx; cases hx
 have hkeep:Keep C (Vt C1 nx H):=⟨fun id hid=>⟨hc.kp.al id hid,hold id hid⟩,hc.kp.sv,hc.kp.shp,hc.kp.ok,hc.kp.heap⟩
 refine⟨val,he,Vt C1 nx H,M2,hw,R.cutLow _ hv hR,⟨⟨h1.sr.base,h1.sr.okLt,?_,?_,?_,?_,fun g=>R.keep (C:=C1.pur) (C':=Vt C1 nx H) ⟨fun _ h=>h.elim,fun _ h=>h.elim,fun _ h=>h.elim,fun _ _ h=>h,fun _ _ _=>rfl⟩ _ _ (R.pure_of _ (hgn g) (h1.sr.gl g))⟩,?_,?_⟩,⟨⟨hkeep,hc.kp.below,hc.kp.okn⟩,?_,?_⟩⟩
 ·intro id c hx
  obtain⟨q1,_,q3⟩:=hM2 id c hx
  exact⟨h1.sr.al id c q1,q3⟩
 ·intro id c hx
  obtain⟨q1,q2,_⟩:=hM2 id c hx
  by_cases hd:c.k=.dead
  ·unfold BR; rw[hd]; trivial
  have hb:=hz.sr.mem id c q2
  unfold BR at hb
  refine BR.mk (h1.sr.mem id c q1) rfl rfl (fun hnl m hr=>?_) fun k ps x y e hl=>?_
  ·cases hkd:c.k<;>simp only[hkd] at hb
   ·obtain⟨g,cur,e,_,_,_,_,_,h6,_⟩:=hb; exact R.two hold _ h6 hr
   ·obtain⟨n1,s,cells,_,_,_,h6⟩:=hb; exact R.two hold _ h6 hr
   ·exact absurd hkd hd
   ·exact absurd hkd (hnl _ _ _ _)
   ·obtain⟨g,es,clk,_,_,_,h6⟩:=hb; exact R.two hold _ h6 hr
  ·rw[e] at hb; exact LoopR.two hold hb hl
 ·intro id id' c c' b q1 q2 q3 q4 q5 q6
  exact h1.sr.sep id id' c c' b (hM2 id c q1).1 q2 (hM2 id' c' q3).1 q4 q5 q6
 ·intro id c b q1 q2 q3 u
  exact h1.sr.own id c b (hM2 id c q1).1 q2 q3 u
 ·intro id c hx
  have q1:id < nx:=by
   rcases Nat.lt_or_ge id nx with q | q
   ·exact q
   ·rw[hmb id q] at hx; cases hx
  show (if id < nx∨H≤id then M1 id else none)=some c
  rw[if_pos (.inl q1)]
  exact h1.sub id c (by rw[hlow id q1]; exact hx)
 ·intro id q1 q2 q3
  rcases q3.2 with h | h
  ·omega
  ·omega
 ·intro id hid
  rcases hc.al id hid.1 with h | h
  ·exact .inl h
  ·rcases hid.2 with h' | h'
   ·omega
   ·omega
 ·intro id hid hn
  obtain⟨q1,q2⟩:=hc.fr id hid hn
  refine⟨?_,hn⟩
  show (if id < nx∨H≤id then M1 id else none)=M id
  rw[if_pos hid,q1]
def dom (μ:Mem) (nx:Nat):List Nat:=(List.range nx).filter fun id=>(μ id).isSome
omit [Gl] in
theorem Xt {μ:Mem}{nx id:Nat}(h:id∈dom μ nx):id < nx:=by simp [dom] at h; exact h.1
omit [Gl] in
theorem w9 {μ:Mem}{nx id:Nat}{b:Blk}(hm:MB μ nx) (h:μ id=some b):id∈dom μ nx:=by
 have:id < nx:=by
  rcases Nat.lt_or_ge id nx with q | q
  ·exact q
  ·rw[hm id q] at h; cases h
 simp [dom,this,h]
def qh (μ':Mem) (nx nx':Nat):List Blk:=(List.range (nx' - nx)).map fun i=>(μ' (nx + i)).getD wq
theorem GDoes.st {o:Oper}{τ:Nat→V}{μ μ':Mem}{nx nx' mx':Nat}{v:V}(h:GDoes P B o τ μ nx v μ' nx' mx') (hmb:MB μ nx) (hmb':MB μ' nx') (hlow:∀ id,id < nx→μ' id=μ id) (hle:nx≤nx') (hx:mx'≤nx') :
  GSt P B o τ μ μ' nx nx' v [] (dom μ nx) ⟨v,[],qh μ' nx nx',dom μ nx⟩:=by
 have hlen:(qh μ' nx nx').length=nx' - nx:=by simp [qh]
 have hget:∀ i,i < nx' - nx→(qh μ' nx nx')[i]?=some ((μ' (nx + i)).getD wq):=by
  intro i hi
  unfold qh
  rw[List.getElem?_map,List.getElem?_range hi]; rfl
 have htouch:∀ id,xf (⟨v,[],qh μ' nx nx',dom μ nx⟩:Eff) nx id=if nx≤id∧id < nx' then some ((μ' id).getD wq) else none:=by
  intro id
  unfold xf
  simp only[hlen,List.lookup_nil]
  by_cases h1:nx≤id∧id < nx'
  ·rw[if_pos (by omega),if_pos h1,hget _ (by omega),show nx + (id - nx)=id by omega]
  ·rw[if_neg (by omega),if_neg h1]
 refine⟨rfl,by show nx'=nx + (qh μ' nx nx').length; omega,rfl,rfl,(by intro x hx; cases hx),?_,?_,?_⟩
 ·intro id hid hn
  rcases hid with hid | hid
  ·rw[hlow id hid]; exact hn
  ·exact hmb' id hid
 ·intro M hM C M1 ρc hs hrd _ hfresh hop
  have hrd':∀ id∈dom μ nx,M1 id=M id:=hrd
  have hfr:∀ id,nx≤id→id < nx'→¬ C.al id:=by
   intro id h1 h2
   have:=hfresh (id - nx) (by show id - nx < (qh μ' nx nx').length; omega)
   rwa [show nx + (id - nx)=id by omega] at this
  refine (h nx' C M1 ρc (Nat.le_refl _) hx ⟨hs,fun id b hb=>by rw[hrd' id (w9 hmb hb)]; exact hM id b hb,hfr⟩ hop).mono ?_
  rintro val w' ⟨C',M',hw,hR,hz,hc⟩
  let C2:Ctx:={ C' with al:=fun id=>C'.al id∨(nx≤id∧id < nx') }
  have hk2:Keep C' C2:=⟨fun _ h=>.inl h,fun _ _=>rfl,fun _ _=>rfl,fun _ _ h=>h,fun _ _ _=>rfl⟩
  have hput:∀ id blk,put M1 nx (⟨v,[],qh μ' nx nx',dom μ nx⟩:Eff) id=some blk→(blk=wq∧nx≤id∧id < nx')∨(M' id=some blk):=by
   intro id blk hb
   unfold put at hb
   rw[htouch] at hb
   by_cases h1:nx≤id∧id < nx'
   ·rw[if_pos h1] at hb
    cases hm:μ' id with
    | none=>rw[hm] at hb; exact .inl ⟨(Option.some.inj hb).symm,h1.1,h1.2⟩
    | some b=>rw[hm] at hb; exact .inr (by rw[hz.sub id b hm]; exact hb)
   ·rw[if_neg h1] at hb
    right
    cases hm:μ id with
    | none=>rw[(hc.fr id (by omega) hm).1]; exact hb
    | some b =>
     have q1:id < nx:=Xt (w9 hmb hm)
     have q2:=hz.sub id b (by rw[hlow id q1]; exact hm)
     rw[q2,←hb]
     show some b=M1 id
     rw[hrd' id (w9 hmb hm),hM id b hm]
  refine⟨C2,hw,R.keep hk2 _ _ hR,⟨⟨fun id h=>.inl (hc.kp.al id h),hc.kp.sv,hc.kp.shp,hc.kp.ok,hc.kp.heap⟩,hc.kp.below,hc.kp.okn⟩,⟨hz.sr.base,hz.sr.okLt,?_,?_,?_,?_,fun g=>R.keep hk2 _ _ (hz.sr.gl g)⟩,?_⟩
  ·intro id blk hb
   rcases hput id blk hb with ⟨_,h1,h2⟩ | h1
   ·exact .inr ⟨h1,h2⟩
   ·exact .inl (hz.sr.al id blk h1)
  ·intro id blk hb
   rcases hput id blk hb with ⟨rfl,_,_⟩ | h1
   ·trivial
   ·exact (hz.sr.mem id blk h1).keep (hz.sr.al id blk h1) hk2 fun _ _=>rfl
  ·intro id id' blk blk' b h1 h2 h3 h4 h5 h6
   rcases hput id blk h1 with ⟨rfl,_,_⟩ | h1
   ·cases h2
   ·rcases hput id' blk' h3 with ⟨rfl,_,_⟩ | h3
    ·cases h4
    ·exact hz.sr.sep id id' blk blk' b h1 h2 h3 h4 h5 h6
  ·intro id blk b h1 h2 h3
   rcases hput id blk h1 with ⟨rfl,_,_⟩ | h1
   ·cases h2
   ·exact hz.sr.own id blk b h1 h2 h3
  ·intro id hid
   show C.al id∨(nx≤id∧id < nx + (qh μ' nx nx').length)
   rcases hid with hid | hid
   ·rcases hc.al id hid with h1 | h1
    ·exact .inl h1
    ·exact .inr ⟨h1.1,by omega⟩
   ·exact .inr ⟨hid.1,by omega⟩
 ·intro _ M hM id b hb
  unfold put
  rw[htouch]
  by_cases h1:nx≤id∧id < nx'
  ·rw[if_pos h1,hb]; rfl
  ·rw[if_neg h1]
   have q1:id < nx:=by
    rcases Nat.lt_or_ge id nx' with q | q
    ·omega
    ·rw[hmb' id q] at hb; cases hb
   exact hM id b (by rw[←hlow id q1]; exact hb)
omit [Gl] in
theorem zb4 (U:List Nat) (f:Nat→Blk) (id:Nat):(U.map fun i=>(i,f i)).lookup id=if id∈U then some (f id) else none:=by
 induction U with
 | nil=>rfl
 | cons x U ih =>
  rw[List.map_cons,List.lookup_cons]
  by_cases h:id=x
  ·subst h; simp
  ·rw[show (id==x)=false by simpa using h]
   simp only[ih,List.mem_cons,h,false_or]
theorem GDoes.stW {U:List Nat}{o:Oper}{τ:Nat→V}{μ μ':Mem}{nx nx' mx':Nat}{v:V}(h:GDoes P B o τ μ nx v μ' nx' mx') (hmb:MB μ nx) (hmb':MB μ' nx') (hlow:∀ id,id < nx→id ∉ U→μ' id=μ id) (hU:∀ id∈U,id < nx∧(∃ b,μ id=some b)∧∃ b,μ' id=some b) (hle:nx≤nx') (hx:mx'≤nx') :
  GSt P B o τ μ μ' nx nx' v U (dom μ nx) ⟨v,U.map (fun id=>(id,(μ' id).getD wq)),qh μ' nx nx',dom μ nx⟩:=by
 have hlen:(qh μ' nx nx').length=nx' - nx:=by simp [qh]
 have hget:∀ i,i < nx' - nx→(qh μ' nx nx')[i]?=some ((μ' (nx + i)).getD wq):=by
  intro i hi
  unfold qh
  rw[List.getElem?_map,List.getElem?_range hi]; rfl
 have htouch:∀ id,xf (⟨v,U.map (fun id=>(id,(μ' id).getD wq)),qh μ' nx nx',dom μ nx⟩:Eff) nx id=if nx≤id∧id < nx' then some ((μ' id).getD wq) else if id∈U then some ((μ' id).getD wq) else none:=by
  intro id
  unfold xf
  simp only[hlen]
  by_cases h1:nx≤id∧id < nx'
  ·rw[if_pos (by omega),if_pos h1,hget _ (by omega),show nx + (id - nx)=id by omega]
  ·rw[if_neg (by omega),if_neg h1,zb4]
 refine⟨rfl,by show nx'=nx + (qh μ' nx nx').length; omega,by rw[List.map_map]; exact List.map_id' U,rfl,(by intro x hx; obtain⟨id,hid,rfl⟩:=List.mem_map.1 hx; exact (hU id hid).2.1),?_,?_,?_⟩
 ·intro id hid hn
  rcases hid with hid | hid
  ·rw[hlow id hid (fun h=>by obtain⟨_,⟨b,hb⟩,_⟩:=hU id h; rw[hb] at hn; cases hn)]; exact hn
  ·exact hmb' id hid
 ·intro M hM C M1 ρc hs hrd _ hfresh hop
  have hrd':∀ id∈dom μ nx,M1 id=M id:=hrd
  have hfr:∀ id,nx≤id→id < nx'→¬ C.al id:=by
   intro id h1 h2
   have:=hfresh (id - nx) (by show id - nx < (qh μ' nx nx').length; omega)
   rwa [show nx + (id - nx)=id by omega] at this
  refine (h nx' C M1 ρc (Nat.le_refl _) hx ⟨hs,fun id b hb=>by rw[hrd' id (w9 hmb hb)]; exact hM id b hb,hfr⟩ hop).mono ?_
  rintro val w' ⟨C',M',hw,hR,hz,hc⟩
  let C2:Ctx:={ C' with al:=fun id=>C'.al id∨(nx≤id∧id < nx') }
  have hk2:Keep C' C2:=⟨fun _ h=>.inl h,fun _ _=>rfl,fun _ _=>rfl,fun _ _ h=>h,fun _ _ _=>rfl⟩
  have hput:∀ id blk,put M1 nx (⟨v,U.map (fun id=>(id,(μ' id).getD wq)),qh μ' nx nx',dom μ nx⟩:Eff) id=some blk→(blk=wq∧nx≤id∧id < nx')∨(M' id=some blk):=by
   intro id blk hb
   unfold put at hb
   rw[htouch] at hb
   by_cases h1:nx≤id∧id < nx'
   ·rw[if_pos h1] at hb
    cases hm:μ' id with
    | none=>rw[hm] at hb; exact .inl ⟨(Option.some.inj hb).symm,h1.1,h1.2⟩
    | some b=>rw[hm] at hb; exact .inr (by rw[hz.sub id b hm]; exact hb)
   ·rw[if_neg h1] at hb
    right
    by_cases hiU:id∈U
    ·rw[if_pos hiU] at hb
     obtain⟨_,_,b,hm⟩:=hU id hiU
     rw[hm] at hb
     rw[hz.sub id b hm]; exact hb
    rw[if_neg hiU] at hb
    cases hm:μ id with
    | none=>rw[(hc.fr id (by omega) hm).1]; exact hb
    | some b =>
     have q1:id < nx:=Xt (w9 hmb hm)
     have q2:=hz.sub id b (by rw[hlow id q1 hiU]; exact hm)
     rw[q2,←hb]
     show some b=M1 id
     rw[hrd' id (w9 hmb hm),hM id b hm]
  refine⟨C2,hw,R.keep hk2 _ _ hR,⟨⟨fun id h=>.inl (hc.kp.al id h),hc.kp.sv,hc.kp.shp,hc.kp.ok,hc.kp.heap⟩,hc.kp.below,hc.kp.okn⟩,⟨hz.sr.base,hz.sr.okLt,?_,?_,?_,?_,fun g=>R.keep hk2 _ _ (hz.sr.gl g)⟩,?_⟩
  ·intro id blk hb
   rcases hput id blk hb with ⟨_,h1,h2⟩ | h1
   ·exact .inr ⟨h1,h2⟩
   ·exact .inl (hz.sr.al id blk h1)
  ·intro id blk hb
   rcases hput id blk hb with ⟨rfl,_,_⟩ | h1
   ·trivial
   ·exact (hz.sr.mem id blk h1).keep (hz.sr.al id blk h1) hk2 fun _ _=>rfl
  ·intro id id' blk blk' b h1 h2 h3 h4 h5 h6
   rcases hput id blk h1 with ⟨rfl,_,_⟩ | h1
   ·cases h2
   ·rcases hput id' blk' h3 with ⟨rfl,_,_⟩ | h3
    ·cases h4
    ·exact hz.sr.sep id id' blk blk' b h1 h2 h3 h4 h5 h6
  ·intro id blk b h1 h2 h3
   rcases hput id blk h1 with ⟨rfl,_,_⟩ | h1
   ·cases h2
   ·exact hz.sr.own id blk b h1 h2 h3
  ·intro id hid
   show C.al id∨(nx≤id∧id < nx + (qh μ' nx nx').length)
   rcases hid with hid | hid
   ·rcases hc.al id hid with h1 | h1
    ·exact .inl h1
    ·exact .inr ⟨h1.1,by omega⟩
   ·exact .inr ⟨hid.1,by omega⟩
 ·intro _ M hM id b hb
  unfold put
  rw[htouch]
  by_cases h1:nx≤id∧id < nx'
  ·rw[if_pos h1,hb]; rfl
  ·rw[if_neg h1]
   by_cases hiU:id∈U
   ·rw[if_pos hiU,hb]; rfl
   rw[if_neg hiU]
   have q1:id < nx:=by
    rcases Nat.lt_or_ge id nx' with q | q
    ·omega
    ·rw[hmb' id q] at hb; cases hb
   exact hM id b (by rw[←hlow id q1 hiU]; exact hb)
def Lend (B:Nat) (μ:Mem) (l0 l:List V):Prop:=∀(C:Ctx) (M:Mem) (vals:List Value),SR B C M→Sub μ M→R C (mkL l0) (.list vals)→R (C.opened B) (mkL l) (.list vals)
theorem vd (hgn:∀ g,vJ (Gl.G g)=true) {c:CSpec}{fid:FuncId}{l0 l:List V}{μ:Mem}{nx mx:Nat}(hc:xX P fid c) (hf:c.fresh=true) (hn:Lend B μ l0 l) (hp:c.pre (unL (mkL l))=true):GCall P B fid l0 μ nx (c.res (unL (mkL l))) μ nx mx:=by
 intro H C M vals hH _ hz hl
 have h:=zgk (s:=(Pure.pure (Next.enter fid vals.toArray):Sem Next)) hz.sr hgn hc rfl (.inl ⟨hf,hn C M vals hz.sr hz.sub hl⟩) hp
 have h0:Calls P fid vals.toArray C.w fun e w''=>∃ v,e=.returned v∧∃ C',C'.w=w''∧R C' (Qu c (mkL l)) (.val v)∧Kp B C C'∧SR B C' M∧(∀ id,C'.al id→C.al id):=h
 refine h0.mono ?_
 rintro e w' ⟨val,he,C',hw,hR,hk,hs,hal⟩
 have hv:Qu c (mkL l)=c.res (unL (mkL l)):=by unfold Qu; rw[hf]
 rw[hv] at hR
 exact⟨val,he,C',M,hw,hR,⟨hs,hz.sub,fun id h1 h2 h3=>hz.al id h1 h2 (hal id h3)⟩,⟨hk,fun id h=>.inl (hal id h),fun _ _ h=>⟨rfl,h⟩⟩⟩
end
end
end Go.K
namespace Go.K
open Go.Ab Go.RowKit Go.Y
noncomputable section
section
variable [Gl] {P:Program}{B:Nat}
theorem SR.obj {C:Ctx}{m:Mem}(h:SR B C m) {n:Nat}(hn:¬ C.al n) (o:Obj) (blk:Blk) (sv:Value) (hsv:xe sv=some C.w.heap.size)
  (hbr:∀ C':Ctx,Keep C C'→C'.sv n=sv→C'.w=C.w.alloc o→BR B C' n blk) :
  SR B { C with al:=fun i=>C.al i∨i=n,sv:=upd C.sv n sv,w:=C.w.alloc o } (upd m n (some blk))∧Kp B C { C with al:=fun i=>C.al i∨i=n,sv:=upd C.sv n sv,w:=C.w.alloc o }:=by
 have hne:∀ id,C.al id→id≠n:=fun id hid e=>hn (e▸hid)
 have hk:Kp B C { C with al:=fun i=>C.al i∨i=n,sv:=upd C.sv n sv,w:=C.w.alloc o }:=⟨⟨fun _ h=>.inl h,fun id hid=>zf _ _ (hne id hid),fun id hid=>rfl,fun _ _ h=>h,fun u b hb'=>Below.heap_alloc C.w _ b (h.okLt u b hb')⟩,
  (Below.refl B C.w).alloc h.base _,fun _ _ h=>.inl (.inl h)⟩
 refine⟨h.next hk (fun id=>id=n) (fun id hid=>zf _ _ hid) (fun id blk b _ hm ha hbb=>Below.heap_alloc C.w _ b (h.lt hm ha hbb).2) ?_ ?_ ?_ ?_,hk⟩
 ·intro id blk' hid hm
  subst hid
  simp only[zp,Option.some.injEq] at hm
  subst hm
  exact⟨.inr rfl,hbr _ hk.toKeep (by simp) rfl⟩
 ·intro u b hb'
  have:=h.okLt u b hb'
  show b < (C.w.alloc _).heap.size
  simp; omega
 ·intro id id' blk1 blk2 b h1 h2 h3 h4 hid h5 h6
  subst hid
  simp only[zp] at h5
  rw[hsv] at h5
  simp only[Option.some.injEq] at h5
  subst h5
  by_cases hid':id'=id
  ·exact hid'.symm
  ·exfalso
   rw[zf _ _ hid'] at h3
   simp only[zf _ _ hid'] at h6
   have:=(h.lt h3 h4 h6).2
   omega
 ·intro id blk1 b h1 h2 h3 u hok
  by_cases hid:id=n
  ·subst hid
   simp only[zp] at h3
   rw[hsv] at h3
   simp only[Option.some.injEq] at h3
   subst h3
   have:=h.okLt _ _ hok
   omega
  ·rw[zf _ _ hid] at h1
   simp only[zf _ _ hid] at h3
   exact h.own id blk1 b h1 h2 h3 u hok
theorem GR.reput {H:Nat}{C:Ctx}{M μ:Mem}{nx id D:Nat}{blk blk':Blk}(hz:GR B H C M μ nx) (hm:M id=some blk) (hl:blk.live=true) (hb:xe (C.sv id)=some D) (hμ:μ id=none) (o:Obj)
  (hbr:∀ C':Ctx,Keep C C'→C'.sv=C.sv→C'.w=vv C.w D o→BR B C' id blk') :
  GR B H { C with w:=vv C.w D o } (upd M id (some blk')) μ nx∧Kp B C { C with w:=vv C.w D o }:=by
 have hlt:=hz.sr.lt hm hl hb
 have hk:Kp B C { C with w:=vv C.w D o }:=(hz.drop hm hl hb hμ o).2
 refine⟨⟨hz.sr.next hk (fun i=>i=id) (fun i hi=>zf _ _ hi) ?_ ?_ ?_ ?_ ?_,fun i b hi=>?_,hz.al⟩,hk⟩
 ·intro i blk1 b1 hi hm1 ha1 hb1
  exact qN fun e=>hi (hz.sr.sep i id blk1 blk b1 hm1 ha1 hm hl hb1 (e▸hb))
 ·intro i blk1 hi hm1
  subst hi
  simp only[zp,Option.some.injEq] at hm1
  subst hm1
  exact⟨hz.sr.al i blk hm,hbr _ hk.toKeep rfl rfl⟩
 ·intro u b hb'
  show b < (vv C.w D o).heap.size
  rw[Xo]; exact hz.sr.okLt u b hb'
 ·intro i i' b1 b2 b h1 h2 h3 h4 hi h5 h6
  subst hi
  by_cases hi':i'=i
  ·exact hi'.symm
  ·rw[zf _ _ hi'] at h3
   exact hz.sr.sep i i' blk b2 b hm hl h3 h4 h5 h6
 ·intro i b1 b h1 h2 h3 u hok
  by_cases hi:i=id
  ·subst hi; exact hz.sr.own i blk b hm hl h3 u hok
  ·rw[zf _ _ hi] at h1; exact hz.sr.own i b1 b h1 h2 h3 u hok
 ·by_cases hi':i=id
  ·subst hi'; rw[hμ] at hi; cases hi
  ·rw[zf _ _ hi']; exact hz.sub i b hi
def StE (st:V) (e:Exit):Prop:=(st=.nl∧e=.normal)∨(st=.bool true∧e=.ret)∨∃ i:Nat,st=.int .i64 (.ofNat i)∧e=.exit i
omit [Gl] in
theorem StE.pend {st:V}{e:Exit}{r:Loop}(h:StE st e) (hs:stR st r):r.state≠.busy∧jmp e=some r.pending:=by
 rcases h with ⟨rfl,rfl⟩ | ⟨rfl,rfl⟩ | ⟨i,rfl,rfl⟩
 ·obtain⟨h1,h2⟩:=hs; rw[h1,h2]; exact⟨by simp,rfl⟩
 ·obtain⟨h1,h2⟩:=hs; rw[h1,h2]; exact⟨by simp,rfl⟩
 ·obtain⟨h1,h2⟩:=hs; rw[h1,h2]; exact⟨by simp,rfl⟩
theorem GRuns.range {g:Operand}{ps:Array Tmp}{x y:Code}{gf:FuncId}{fn:Func}{caps v st:V}{τ:Nat→V}{τ':V}{μ μ2:Mem}{nx nx2 mx2 N mask:Nat}{sh sh':Shape}{e:Exit}
  (hg:opv Gl.G τ g=.fn gf caps) (hlt:gf < 1073741824) (hfn:P.funcs[gf]?=some fn) (hname:(fn.name == "runtime.NumGoroutine")=false) (hbody:fn.body.isNone=false)
  {k0:Nat}(hmask:∀ t,zqg mask t=false→τ t=.unk) (hcok:cOk N (.rangeFunc g ps x y)=true) (hmb:MB μ nx)
  (hcall:GCall P B gf (.yld nx::unL caps) (upd μ nx (some ⟨.lp mask ps x y,sh,.cons .nl (.arr k0 τ)⟩)) (nx + 2) v μ2 nx2 mx2) (hle:nx + 2≤nx2)
  {mask':Nat}{ps':Array Tmp}{x' y':Code}(hend:μ2 nx=some ⟨.lp mask' ps' x' y',sh',.cons st τ'⟩) (hst:StE st e):GRuns P B (.rangeFunc g ps x y) τ μ nx N e τ (upd μ2 nx none) nx2 mx2:=by
 intro ro n0 H C M a hH hH2 hz ht hsd
 have hev:=ht.operand hz.sr.gl g
 rw[hg] at hev
 obtain⟨cs,hg1,hg2⟩:=R.fn0 hlt hev
 have hg1':a.eval g=.func (.func gf) #[] cs:=hg1
 have hcf:∀ args w,(callFunc gf args).run P w=.ok (.enter gf args) w:=fun args w=>by
  simp only[callFunc,Sem.run_bind,Sem.run_pure,Result.andThen_ok,run_program,hfn,hname,hbody,Bool.false_eq_true,if_false]
 have hokr:okR ps x y a.tmps.size:=by
  have h1:=vx ht.size hcok
  simp only[cOk,Bool.and_eq_true] at h1
  exact⟨h1.1,h1.2.1,h1.2.2⟩
 refine zhC fun fnid=>?_
 have lay:∃(l:Nat) (mark:List Deferred) (w1:World) (C1:Ctx) (M1:Mem),(Instr.enterLoop fnid a.tmps ps x y ro).run P C.w=.ok (l,mark) w1∧C1.w=w1∧SR B C1 M1∧Kp B C C1∧(∀ id,C1.al id→C.al id∨id=nx∨id=nx + 1)∧C1.sv nx=.func (.yield l) #[] #[]∧C1.al nx ∧
   M1 nx=some ⟨.lp mask ps x y,sh,.cons .nl (.arr k0 τ)⟩∧(∀ id,id≠nx→id≠nx + 1→M1 id=M id) ∧
   ((mark=[])∨∃ D,mark=[⟨.collected D,#[]⟩]∧D=C.w.heap.size∧M1 (nx + 1)=some ⟨.lp mask ps x y,sh,.nilf⟩∧C1.sv (nx + 1)=.pointer (some ⟨D,0,none⟩)):=by
  have hn0:¬ C.al nx:=hz.al nx (Nat.le_refl _) (by omega)
  have hn1:¬ C.al (nx + 1):=hz.al (nx + 1) (by omega) (by omega)
  have lay1:∀(C0:Ctx) (M0:Mem) (r:Loop),SR B C0 M0→Keep C C0→¬ C0.al nx→r.state=.ready→r.pending=none→r.params=ps→r.assign=x→r.body=y→r.tmps=a.tmps →
    SR B { C0 with al:=fun i=>C0.al i∨i=nx,sv:=upd C0.sv nx (.func (.yield C0.w.heap.size) #[] #[]),w:=C0.w.alloc (.loop r) } (upd M0 nx (some ⟨.lp mask ps x y,sh,.cons .nl (.arr k0 τ)⟩)) ∧
    Kp B C0 { C0 with al:=fun i=>C0.al i∨i=nx,sv:=upd C0.sv nx (.func (.yield C0.w.heap.size) #[] #[]),w:=C0.w.alloc (.loop r) }:=by
   intro C0 M0 r hs hk hal e1 e2 e3 e4 e5 e6
   refine SR.obj hs hal (.loop r) _ _ rfl fun C' hk' e7 e8=>?_
   refine .inl ⟨C0.w.heap.size,r,.nl,k0,τ,e7,hs.base,by rw[e8]; exact heap_alloc_new C0.w _,⟨e3,e4,e5⟩,rfl,by rw[e6]; exact hokr,fun t=>?_,⟨e1,e2⟩,hmask⟩
   rw[e6]
   exact R.keep (hk.trans hk') _ _ (ht.tv t)
  cases ro with
  | none =>
   obtain⟨s1,k1⟩:=SR.obj hz.sr hn1 (.deferred (some [])) ⟨.lp mask ps x y,sh,.nilf⟩ (.pointer (some ⟨C.w.heap.size,0,none⟩)) rfl fun C' hk' e7 e8 =>
    .inr ⟨rfl,C.w.heap.size,e7,hz.sr.base,by rw[e8]; exact heap_alloc_new C.w _⟩
   obtain⟨s2,k2⟩:=lay1 _ _ ⟨.ready,none,fnid,a.tmps,ps,x,y,C.w.heap.size⟩ s1 k1.toKeep (fun h=>h.elim hn0 (by omega)) rfl rfl rfl rfl rfl rfl
   refine⟨_,_,_,_,_,zaJ fnid a.tmps ps x y,rfl,s2,k1.trans k2,?_,?_,.inr rfl,zp _ _ _,fun id h1 h2=>by rw[zf _ _ h1,zf _ _ h2],.inr ⟨_,rfl,rfl,?_,?_⟩⟩
   ·rintro id ((h | h) | h)
    ·exact .inl h
    ·exact .inr (.inr h)
    ·exact .inr (.inl h)
   ·show upd _ nx _ nx=_
    rw[zp,World.size_alloc]
   ·rw[zf _ _ (by omega),zp]
   ·show upd (upd C.sv (nx + 1) _) nx _ (nx + 1)=_
    rw[zf _ _ (by omega),zp]
  | some l0 =>
   obtain⟨id0,k,ps0,x0,y0,sh0,st0,n1,τ0,_,_,h3,h4⟩:=hsd.rd l0 rfl
   have hl0:∃ r0,C.w.heap[l0]?=some (.loop r0):=by
    rcases (show LoopR B C id0 k ps0 x0 y0 (.cons st0 (.arr n1 τ0)) from hz.sr.mem id0 _ h3) with ⟨l1,r1,_,_,_,e1,_,e2,_⟩ | ⟨e0,_⟩
    ·rw[h4] at e1; cases e1; exact⟨r1,e2⟩
    ·cases e0
   obtain⟨r0,hr0⟩:=hl0
   obtain⟨s2,k2⟩:=lay1 C M ⟨.ready,none,fnid,a.tmps,ps,x,y,r0.defers⟩ hz.sr (Keep.refl C) hn0 rfl rfl rfl rfl rfl rfl
   refine⟨_,_,_,_,_,zaK hr0 fnid a.tmps ps x y,rfl,s2,k2,?_,zp _ _ _,.inr rfl,zp _ _ _,fun id h1 h2=>by rw[zf _ _ h1],.inl rfl⟩
   rintro id (h | h)
   ·exact .inl h
   ·exact .inr (.inl h)
 obtain⟨l,mark,w1,C1,M1,hent,rfl,hs1,hk1,hal1,hsv1,hnal,hM1,hMo,hmk⟩:=lay
 refine⟨l,mark,_,gf,cs,hent,hg1',hcf,?_⟩
 have hμ1:∀ id,id≠nx→upd μ nx (some (⟨.lp mask ps x y,sh,.cons .nl (.arr k0 τ)⟩:Blk)) id=μ id:=fun id h=>zf _ _ h
 have hz1:GR B H C1 M1 (upd μ nx (some ⟨.lp mask ps x y,sh,.cons .nl (.arr k0 τ)⟩)) (nx + 2):=by
  refine⟨hs1,fun id b hb=>?_,fun id h1 h2 h3=>?_⟩
  ·by_cases hi:id=nx
   ·subst hi; rw[zp] at hb; rw[hM1]; exact hb
   ·rw[hμ1 id hi] at hb
    by_cases hi2:id=nx + 1
    ·subst hi2; rw[hmb _ (by omega)] at hb; cases hb
    ·rw[hMo id hi hi2]; exact hz.sub id b hb
  ·rcases hal1 id h3 with h | h
   ·exact hz.al id (by omega) h2 h
   ·omega
 have hargs:R C1 (mkL (.yld nx::unL caps)) (.list (.func (.yield l) #[] #[]::cs.toList)) :=
  ⟨_,_,rfl,⟨hnal,.inl ⟨l,hsv1⟩,hsv1.symm⟩,X8 (R.keep hk1.toKeep _ _ hg2)⟩
 have hC:=hcall H C1 M1 _ hH hH2 hz1 hargs
 have harr:(Value.func (.yield l) #[] #[]::cs.toList).toArray=#[.func (.yield l) #[] #[]]++cs:=by
  apply Array.ext'; simp
 rw[harr] at hC
 refine hC.mono ?_
 rintro e1 w' ⟨val,rfl,C2,M2,rfl,_,hz2,hc2⟩
 have hM2:M2 nx=some ⟨.lp mask' ps' x' y',sh',.cons st τ'⟩:=hz2.sub _ _ hend
 have hsv2:C2.sv nx=.func (.yield l) #[] #[]:=by rw[hc2.kp.sv _ hnal]; exact hsv1
 obtain⟨r,hr,hstr⟩:∃ r,C2.w.heap[l]?=some (.loop r)∧stR st r:=by
  rcases (show LoopR B C2 nx mask' ps' x' y' (.cons st τ') from hz2.sr.mem nx _ hM2) with ⟨l1,r1,_,_,_,e1,_,e2,_,e3,_,_,e4,_⟩ | ⟨e0,_⟩
  ·rw[hsv2] at e1; cases e1
   cases e3
   exact⟨r1,e2,e4⟩
  ·cases e0
 obtain⟨hnb,hj⟩:=hst.pend hstr
 have hz3:GR B H C2 M2 (upd μ2 nx none) nx2:=⟨hz2.sr,fun id b hb=>by
  by_cases hi:id=nx
  ·subst hi; rw[zp] at hb; cases hb
  ·rw[zf _ _ hi] at hb; exact hz2.sub id b hb,hz2.al⟩
 obtain⟨hz4,hk4⟩:=hz3.drop hM2 rfl (by rw[hsv2]; rfl) (zp _ _ _) (.loop { r with state:=.exhausted })
 have hgc:GC B H C M μ nx { C2 with w:=vv C2.w l (.loop { r with state:=.exhausted }) } (upd M2 nx none) (upd μ2 nx none) nx2:=by
  refine⟨(hk1.trans hc2.kp).trans hk4,fun id hid=>?_,fun id hid hμ=>?_⟩
  ·rcases hc2.al id hid with h | h
   ·rcases hal1 id h with h | h
    ·exact .inl h
    ·exact .inr (by omega)
   ·exact .inr (by omega)
  ·have hi:id≠nx:=by omega
   have hi2:id≠nx + 1:=by omega
   obtain⟨q1,q2⟩:=hc2.fr id (by omega) (by rw[hμ1 id hi]; exact hμ)
   exact⟨by rw[zf _ _ hi,q1,hMo id hi hi2],by rw[zf _ _ hi]; exact q2⟩
 have hgt:GT { C2 with w:=vv C2.w l (.loop { r with state:=.exhausted }) } τ { a with defers:=mark++a.defers } N:=⟨fun t=>R.keep ((hk1.trans hc2.kp).trans hk4).toKeep _ _ (ht.tv t),ht.size⟩
 have hside:=hsd.next hz.sr hgc (by omega)
 have hsd':Side ro n0 H { C2 with w:=vv C2.w l (.loop { r with state:=.exhausted }) } (upd M2 nx none) (upd μ2 nx none) nx2 (mark++a.defers):=by
  rcases hmk with rfl | ⟨D,rfl,hD,hMD,hsD⟩
  ·exact hside
  ·have hnal1:C1.al (nx + 1):=hs1.al _ _ hMD
   obtain⟨q1,q2⟩:=hc2.fr (nx + 1) (by omega) (by rw[hμ1 _ (by omega)]; exact hmb _ (by omega))
   refine⟨fun d hd=>?_,?_,hside.le,hside.rd⟩
   ·rcases List.mem_cons.1 hd with rfl | hd
    ·exact⟨nx + 1,D,mask,ps,x,y,sh,by have:=hsd.le; omega,by rw[zf _ _ (by omega)]; exact q2,by rw[zf _ _ (by omega),q1]; exact hMD,by show C2.sv (nx + 1)=_; rw[hc2.kp.sv _ hnal1]; exact hsD,rfl⟩
    ·exact hside.df d hd
   ·show List.Nodup (_::_)
    rw[List.nodup_cons]
    refine⟨fun hd=>?_,hsd.nd⟩
    obtain⟨id,D',k,ps',x',y',sh',_,_,h3,h4,h5⟩:=hsd.df _ hd
    have hlt:D' < C.w.heap.size:=(hz.sr.lt h3 rfl (b:=D') (by rw[h4]; rfl)).2
    cases h5
    omega
 have hfin:XX ro n0 B H C M μ nx N e τ (upd μ2 nx none) nx2 e { a with defers:=mark++a.defers } (vv C2.w l (.loop { r with state:=.exhausted })):=⟨rfl,_,_,rfl,hz4,hgt,hgc,hsd'⟩
 refine⟨val,r.pending,_,rfl,zlN hr hnb,?_⟩
 have key:∀(pj:Option Code) (w4:World),jmp e=some pj→XX ro n0 B H C M μ nx N e τ (upd μ2 nx none) nx2 e { a with defers:=mark++a.defers } w4→match pj with
   | none=>XX ro n0 B H C M μ nx N e τ (upd μ2 nx none) nx2 .normal { a with defers:=mark++a.defers } w4
   | some c=>c.wpIn (FR ro) 0 P (XX ro n0 B H C M μ nx N e τ (upd μ2 nx none) nx2) { a with defers:=mark++a.defers } w4:=by
  intro pj w4 hpj hf
  rcases hst with ⟨_,rfl⟩ | ⟨_,rfl⟩ | ⟨i,_,rfl⟩
  ·obtain rfl:none=pj:=Option.some.inj hpj
   exact hf
  ·obtain rfl:some .ret=pj:=Option.some.inj hpj
   exact wpIn_ret hf
  ·obtain rfl:some (.exit i)=pj:=Option.some.inj hpj
   exact wpIn_exit hf
 exact key _ _ hj hfin
end
end
end Go.K
namespace Go.K
open Go.Ab Go.RowKit Go.Y
noncomputable section
section
variable [Gl] {P:Program}{B:Nat}
def zdx:List Tmp→List V→(Nat→V)→(Nat→V)→Prop
 | [],[],τ,τ'=>∀ t,τ' t=τ t
 | p::ps,v::vs,τ,τ'=>∃ τ1,(∀ t,(t=p∧(τ1 t=v∨τ1 t=.unk))∨(t≠p∧τ1 t=τ t))∧zdx ps vs τ1 τ'
 | _,_,_,_=>False
omit [Gl] in
theorem GT.pars {C:Ctx}{n:Nat}:∀ {ps:List Tmp}{vs:List V}{xs:List Value}{τ τ':Nat→V}{tm:Array Value},zdx ps vs τ τ'→R C (mkL vs) (.list xs)→(∀ p∈ps,p < n)→GT C τ { tmps:=tm,defers:=[] } n →
  GT C τ' { tmps:=(ps.zip xs).foldl (fun tm (t,a)=>tm.setIfInBounds t a) tm,defers:=[] } n
 | [],[],xs,τ,τ',tm,h,hr,_,ht=>by
  refine⟨fun t=>?_,by simpa using ht.size⟩
  rw[h t]
  simpa using ht.tv t
 | p::ps,v::vs,xs,τ,τ',tm,h,hr,hp,ht=>by
  obtain⟨τ1,h1,h2⟩:=h
  obtain⟨x,xs',rfl,hv,hr'⟩:=hr
  have hlt:p < n:=hp p (by simp)
  have hsz:n≤tm.size:=ht.size
  refine GT.pars (tm:=tm.setIfInBounds p x) h2 hr' (fun q hq=>hp q (by simp [hq])) ⟨fun t=>?_,by simpa using hsz⟩
  have hg:(tm.setIfInBounds p x).getD t undef=if t=p then x else tm.getD t undef:=by
   simp only[Array.getD_eq_getD_getElem?]
   by_cases h:t=p
   ·subst h; rw[if_pos rfl,Array.getElem?_setIfInBounds_self_of_lt (Nat.lt_of_lt_of_le hlt hsz)]; rfl
   ·rw[if_neg h,Array.getElem?_setIfInBounds_ne (Ne.symm h)]
  show R C (τ1 t) (.val ((tm.setIfInBounds p x).getD t undef))
  rw[hg]
  rcases h1 t with ⟨e,h | h⟩ | ⟨e,h⟩
  ·rw[if_pos e,h]; exact hv
  ·rw[h]; trivial
  ·rw[if_neg e,h]; exact ht.tv t
 | [],_::_,_,_,_,_,h,_,_,_=>h.elim
 | _::_,[],_,_,_,_,h,_,_,_=>h.elim
theorem GOp.yield {o:Oper}{f:Operand}{args:Array Operand}{ts:Array TypeId}{τ τc τp τ1 τ2:Nat→V}{μ μ1 μ2:Mem}{nx nx1 nx2 mx1 mx2 k0 mask id:Nat}{ps:Array Tmp}{x y:Code}{sh:Shape}{st:V}{e:Exit}{bv:Bool}
  (ho:o.op=.call ⟨.value f,args,ts⟩) (hf:opv Gl.G τ f=.yld id) (hid:id < nx) (hμ:μ id=some ⟨.lp mask ps x y,sh,.cons .nl (.arr k0 τc)⟩)
  (hτ:zdx ps.toList (args.toList.map (opv Gl.G τ)) τc τp) (hlen:args.size=ps.size)
  (hx:GRuns P B x τp (upd μ id none) nx (ndR ps x y) .normal τ1 μ1 nx1 mx1) (hy:GRuns P B y τ1 μ1 nx1 (ndR ps x y) e τ2 μ2 nx2 mx2) (h1:nx≤nx1) (h2:nx1≤nx2) (h3:mx1≤mx2)
  (hst:StE st e) (hb:bv=true↔e=.normal) :
  GOp P B o τ μ nx (.bool bv) (upd μ2 id (some ⟨.lp mask ps x y,sh,.cons st (.arr k0 τc)⟩)) nx2 mx2:=by
 intro ro H C M a K Q hH hH2 hr ho' hK
 obtain⟨g0,g3⟩:=Qo ho ho'
 rw[hf] at g0
 obtain⟨hal,_,hfv⟩:=g0
 obtain⟨l,hsv⟩:∃ l,C.sv id=.func (.yield l) #[] #[]:=by
  have:=hr.sr.mem id _ (hr.sub _ _ hμ)
  rcases (show LoopR B C id mask ps x y (.cons .nl (.arr k0 τc)) from this) with ⟨l1,_,_,_,_,e1,_⟩ | ⟨e0,_⟩
  ·exact⟨l1,e1⟩
  ·cases e0
 have hfv':a.eval f=.func (.yield l) #[] #[]:=by rw[←hsv]; exact hfv
 have hM:=hr.sub _ _ hμ
 have rec0:∀ {C':Ctx}{st':V},LoopR B C' id mask ps x y (.cons st' (.arr k0 τc))→C'.sv id=.func (.yield l) #[] #[] →
   ∃ r,C'.w.heap[l]?=some (.loop r)∧B≤l∧r.params=ps∧r.assign=x∧r.body=y∧okR ps x y r.tmps.size∧(∀ t,R C' (τc t) (.val (r.tmps.getD t undef)))∧stR st' r ∧
    (∀ t,zqg mask t=false→τc t=.unk):=by
  intro C' st' h hs
  rcases h with ⟨l1,r1,_,_,_,e1,e2,e3,⟨e4,e5,e6⟩,e7,e8,e9,e10,e11⟩ | ⟨e0,_⟩
  ·rw[hs] at e1; cases e1; cases e7
   exact⟨r1,e3,e2,e4,e5,e6,e8,e9,e10,e11⟩
  ·cases e0
 obtain⟨r,hr0,hBl,rfl,rfl,rfl,htm,htv,⟨hst0,hpd0⟩,hmask⟩:=rec0 (hr.sr.mem id _ hM) hsv
 refine⟨fun _ _=>trivial,?_⟩
 rw[Oper.semAt_eq _ _ _ (fun c=>by rw[ho]; exact fun h=>(by cases h))]
 have hrun:(execOp a.eval o).run P C.w=.ok (.round l r.fn ((r.params.zip (args.toList.map a.eval).toArray).foldl (fun tm (t,v)=>tm.setIfInBounds t v) r.tmps) r.assign r.body) C.w:=by
  have hy:=zfD (P:=P) (w:=C.w) (args:=(args.toList.map a.eval).toArray) hr0 (by simpa using hlen)
  rw[←hy]
  simp only[execOp,ho,resolve,hfv',Deferred.ofValue,Sem.run_bind,Sem.run_pure,Result.andThen_ok,invoke]
  simp
  rw[show Array.map a.eval args=(args.toList.map a.eval).toArray by apply Array.ext'; simp]
 rw[hrun]
 refine⟨fun hx=>(by cases hx),zhB ?_⟩
 have hz0:GR B H C M (upd μ id none) nx:=⟨hr.sr,fun i b hi=>by
  by_cases h:i=id
  ·subst h; rw[zp] at hi; cases hi
  ·rw[zf _ _ h] at hi; exact hr.sub i b hi,hr.al⟩
 have hfold:(r.params.zip (args.toList.map a.eval).toArray).foldl (fun tm (t,v)=>tm.setIfInBounds t v) r.tmps=(r.params.toList.zip (args.toList.map a.eval)).foldl (fun tm (t,v)=>tm.setIfInBounds t v) r.tmps:=by
  rw[←Array.foldl_toList]; simp
 have ht0:GT C τp { tmps:=(r.params.zip (args.toList.map a.eval).toArray).foldl (fun tm (t,v)=>tm.setIfInBounds t v) r.tmps,defers:=[] } (ndR r.params r.assign r.body):=by
  rw[hfold]
  exact GT.pars hτ g3 (fun p hp=>of_decide_eq_true (List.all_eq_true.1 (zgs htm).2.1 p hp)) ⟨htv,(zgs htm).1⟩
 have hs0:Side (some l) (nx + 1) H C M (upd μ id none) nx []:=⟨(fun d hd=>((by cases hd))),List.nodup_nil,Nat.le_refl _,fun l' hl'=>by
  cases hl'; exact⟨id,mask,r.params,r.assign,r.body,sh,.nl,k0,τc,hid,zp _ _ _,hM,hsv⟩⟩
 refine wpIn_mono (hx (some l) (nx + 1) H C M _ (by omega) (by omega) hz0 ht0 hs0) ?_
 rintro e1 a1 w1 ⟨rfl,C1,M1,rfl,hf1⟩
 refine⟨rfl,?_⟩
 obtain⟨q1,q2⟩:=hf1.yc.fr id (.inl hid) (zp _ _ _)
 have hsv1:C1.sv id=.func (.yield l) #[] #[]:=by rw[hf1.yc.kp.sv _ hal]; exact hsv
 have hM1:M1 id=some ⟨.lp mask r.params r.assign r.body,sh,.cons .nl (.arr k0 τc)⟩:=by rw[q1]; exact hM
 obtain⟨r1,hr1,_,e1,e2,e3,htm1,htv1,⟨hs1,hp1⟩,_⟩:=rec0 (hf1.yr.sr.mem id _ hM1) hsv1
 refine⟨_,zfE hr1 hs1,?_⟩
 have hlt1:l < C1.w.heap.size:=(Array.getElem?_eq_some_iff.1 hr1).1
 obtain⟨hz2,hk2⟩:=hf1.yr.reput hM1 rfl (by rw[hsv1]; rfl) q2 (.loop { r1 with state:=.busy }) (blk':=⟨.lp mask r.params r.assign r.body,sh,.cons .nilp (.arr k0 τc)⟩) (fun C' hk' e4 e5 =>
  .inl ⟨l,{ r1 with state:=.busy },.nilp,k0,τc,by rw[e4]; exact hsv1,hBl,by rw[e5]; exact QN hlt1,⟨e1,e2,e3⟩,rfl,htm1,fun t=>R.keep hk' _ _ (htv1 t),⟨rfl,hp1⟩,hmask⟩)
 have hs2:Side (some l) (nx + 1) H { C1 with w:=vv C1.w l (.loop { r1 with state:=.busy }) } (upd M1 id (some ⟨.lp mask r.params r.assign r.body,sh,.cons .nilp (.arr k0 τc)⟩)) μ1 nx1 a1.defers:=by
  refine⟨fun d hd=>?_,hf1.sd.nd,hf1.sd.le,fun l' hl'=>?_⟩
  ·obtain⟨id',D,k,ps',x',y',sh',g1,g2,g4,g5,g6⟩:=hf1.sd.df d hd
   exact⟨id',D,k,ps',x',y',sh',g1,g2,by rw[zf _ _ (by omega)]; exact g4,g5,g6⟩
  ·cases hl'
   exact⟨id,mask,r.params,r.assign,r.body,sh,.nilp,k0,τc,by omega,q2,zp _ _ _,hsv1⟩
 refine wpIn_mono (hy (some l) (nx + 1) H _ _ a1 (by omega) (by omega) hz2 (hf1.yt.keep hk2.toKeep) hs2) ?_
 rintro e4 a2 w2 ⟨rfl,C2,M2,rfl,hf2⟩
 obtain⟨q3,q4⟩:=hf2.yc.fr id (.inl (by omega)) q2
 have hal1:C1.al id:=hf1.yc.kp.al _ hal
 have hsv2:C2.sv id=.func (.yield l) #[] #[]:=by rw[hf2.yc.kp.sv _ hal1]; exact hsv1
 have hM2:M2 id=some ⟨.lp mask r.params r.assign r.body,sh,.cons .nilp (.arr k0 τc)⟩:=by rw[q3,zp]
 obtain⟨r2,hr2,_,e5,e6,e7,htm2,htv2,_,_⟩:=rec0 (hf2.yr.sr.mem id _ hM2) hsv2
 have hlt2:l < C2.w.heap.size:=(Array.getElem?_eq_some_iff.1 hr2).1
 have hj:∃ j,jmp e4=some j∧j.isNone=bv∧∀(r':Loop),stR st { r' with state:=if j.isNone then .ready else .done,pending:=j }:=by
  rcases hst with ⟨rfl,rfl⟩ | ⟨rfl,rfl⟩ | ⟨i,rfl,rfl⟩
  ·exact⟨none,rfl,(hb.2 rfl).symm,fun r'=>⟨rfl,rfl⟩⟩
  ·refine⟨some .ret,rfl,?_,fun r'=>⟨rfl,rfl⟩⟩
   cases bv with
   | false=>rfl
   | true=>exact (by have q:=hb.1 rfl; cases q)
  ·refine⟨some (.exit i),rfl,?_,fun r'=>⟨rfl,rfl⟩⟩
   cases bv with
   | false=>rfl
   | true=>exact (by have q:=hb.1 rfl; cases q)
 obtain⟨j,hj1,hj2,hj3⟩:=hj
 refine⟨j,.bool j.isNone,_,hj1,zlM j hr2,?_⟩
 obtain⟨hz3,hk3⟩:=hf2.yr.reput hM2 rfl (by rw[hsv2]; rfl) q4 (.loop { r2 with state:=if j.isNone then .ready else .done,pending:=j }) (blk':=⟨.lp mask r.params r.assign r.body,sh,.cons st (.arr k0 τc)⟩) (fun C' hk' e8 e9 =>
  .inl ⟨l,{ r2 with state:=if j.isNone then .ready else .done,pending:=j },st,k0,τc,by rw[e8]; exact hsv2,hBl,by rw[e9]; exact QN hlt2,⟨e5,e6,e7⟩,rfl,htm2,fun t=>R.keep hk' _ _ (htv2 t),hj3 r2,hmask⟩)
 rw[hj2] at hz3 hk3 ⊢
 refine hK (.bool bv) _ (upd M2 id (some ⟨.lp mask r.params r.assign r.body,sh,.cons st (.arr k0 τc)⟩)) rfl ⟨hz3.sr,fun i b hi=>?_,hz3.al⟩ ⟨((hf1.yc.kp.trans hk2).trans hf2.yc.kp).trans hk3,fun i hi=>?_,fun i hi hn=>?_⟩
 ·by_cases h:i=id
  ·subst h; rw[zp] at hi ⊢; exact hi
  ·rw[zf _ _ h] at hi; exact hz3.sub i b hi
 ·rcases hf2.yc.al i hi with h | h
  ·rcases hf1.yc.al i h with h | h
   ·exact .inl h
   ·exact .inr (by omega)
  ·exact .inr (by omega)
 ·have hne:i≠id:=by intro e; subst e; rw[hμ] at hn; cases hn
  obtain⟨p1,p2⟩:=hf1.yc.fr i hi (by rw[zf _ _ hne]; exact hn)
  obtain⟨p3,p4⟩:=hf2.yc.fr i (by omega) p2
  exact⟨by rw[zf _ _ hne,p3,zf _ _ hne,p1],by rw[zf _ _ hne]; exact p4⟩
end
end
end Go.K
namespace Go.K
open Go.Ab Go.RowKit Go.Y
noncomputable section
variable [KGl]
def zok (a b:Step):Bool:=match a,b with
 | .fld i,.fld j=>Nat.beq i j
 | .idx i,.idx j=>Nat.beq i j
 | .sub i m,.sub j n=>nd (Nat.beq i j) (Nat.beq m n)
 | _,_=>false
def zaG:List Step→List Step→Bool
 | [],[]=>true
 | a::p,b::q=>nd (zok a b) (zaG p q)
 | _,_=>false
omit [KGl] in
theorem WU:∀ {p q:List Step},zaG p q=true→p=q
 | [],[],_=>rfl
 | [],_::_,h=>by cases h
 | _::_,[],h=>by cases h
 | a::p,b::q,h=>by
  obtain⟨h1,h2⟩:=zd.1 (show nd (zok a b) (zaG p q)=true from h)
  rw[WU h2]
  cases a<;>cases b<;>first | (cases h1; done) | rw[zI h1] | (obtain⟨h3,h4⟩:=zd.1 h1; rw[zI h3,zI h4])
def zlF (a b:Int):Bool:=match a,b with
 | .ofNat m,.ofNat n=>Nat.beq m n
 | .negSucc m,.negSucc n=>Nat.beq m n
 | _,_=>false
omit [KGl] in
theorem zqI {a b:Int}(h:zlF a b=true):a=b:=by
 unfold zlF at h
 split at h
 ·rw[zI h]
 ·rw[zI h]
 ·cases h
omit [KGl] in
theorem WV {a b:Bool}(h:zaL a b=true):a=b:=by rw[Vh] at h; simpa using h
def zqJ (a b:Option Nat):Bool:=match a,b with
 | none,none=>true
 | some m,some n=>Nat.beq m n
 | _,_=>false
omit [KGl] in
theorem zqK {a b:Option Nat}(h:zqJ a b=true):a=b:=by
 unfold zqJ at h
 split at h
 ·rfl
 ·rw[zI h]
 ·cases h
def kvb:KV→KV→Bool
 | .int k n,.int k' n'=>nd (xa k k') (zlF n n')
 | .bool a,.bool b=>zaL a b
 | .str n x,.str n' x'=>nd (Nat.beq n n') (Nat.beq x x')
 | .nl,.nl=>true
 | .cons h t,.cons h' t'=>nd (kvb h h') (kvb t t')
 | .pk k n x,.pk k' n' x'=>nd (xa k k') (nd (Nat.beq n n') (Nat.beq x x'))
 | .ar n d t,.ar n' d' t'=>nd (Nat.beq n n') (nd (kvb d d') (kvb t t'))
 | .te,.te=>true
 | .tb a b c d,.tb a' b' c' d'=>nd (kvb a a') (nd (kvb b b') (nd (kvb c c') (kvb d d')))
 | .tn x a b c d,.tn x' a' b' c' d'=>nd (kvb x x') (nd (kvb a a') (nd (kvb b b') (nd (kvb c c') (kvb d d'))))
 | .ptr id p s,.ptr id' p' s'=>nd (Nat.beq id id') (nd (zaG p p') (s.beq s'))
 | .row id s n,.row id' s' n'=>nd (Nat.beq id id') (nd (s.beq s') (Nat.beq n n'))
 | .sl id p s off len cap,.sl id' p' s' off' len' cap'=>nd (Nat.beq id id') (nd (zaG p p') (nd (s.beq s') (nd (Nat.beq off off') (nd (Nat.beq len len') (zqJ cap cap')))))
 | .ref w s c,.ref w' s' c'=>nd (zaL w w') (nd (s.beq s') (kvb c c'))
 | .nilp,.nilp=>true
 | .nils,.nils=>true
 | .nilf,.nilf=>true
 | .ro w cl s off len c,.ro w' cl' s' off' len' c'=>nd (zaL w w') (nd (zaL cl cl') (nd (s.beq s') (nd (Nat.beq off off') (nd (Nat.beq len len') (kvb c c')))))
 | .fn f c,.fn f' c'=>nd (Nat.beq f f') (kvb c c')
 | .tup l,.tup l'=>kvb l l'
 | .unk,.unk=>true
 | _,_=>false
omit [KGl] in
theorem vC:∀ {v w:KV},kvb v w=true→v=w:=by
 intro v
 induction v with
 | cons a b ih1 ih2 =>
  intro w h
  cases w<;>first | (cases h; done) | skip
  obtain⟨h1,h2⟩:=zd.1 h
  rw[ih1 h1,ih2 h2]
 | int k n =>
  intro w h
  cases w<;>first | (cases h; done) | skip
  obtain⟨h1,h2⟩:=zd.1 h
  rw[zD h1,zqI h2]
 | bool b =>
  intro w h
  cases w<;>first | (cases h; done) | skip
  rw[WV h]
 | str n x =>
  intro w h
  cases w<;>first | (cases h; done) | skip
  obtain⟨h1,h2⟩:=zd.1 h
  rw[zI h1,zI h2]
 | pk k n x =>
  intro w h
  cases w<;>first | (cases h; done) | skip
  obtain⟨h1,h2⟩:=zd.1 h
  obtain⟨h2,h3⟩:=zd.1 h2
  rw[zD h1,zI h2,zI h3]
 | ar n d t ih1 ih2 =>
  intro w h
  cases w<;>first | (cases h; done) | skip
  obtain⟨h1,h2⟩:=zd.1 h
  obtain⟨h2,h3⟩:=zd.1 h2
  rw[zI h1,ih1 h2,ih2 h3]
 | tb a b c d ih1 ih2 ih3 ih4 =>
  intro w h
  cases w<;>first | (cases h; done) | skip
  obtain⟨h1,h2⟩:=zd.1 h
  obtain⟨h2,h3⟩:=zd.1 h2
  obtain⟨h3,h4⟩:=zd.1 h3
  rw[ih1 h1,ih2 h2,ih3 h3,ih4 h4]
 | tn x a b c d ih0 ih1 ih2 ih3 ih4 =>
  intro w h
  cases w<;>first | (cases h; done) | skip
  obtain⟨h0,h1⟩:=zd.1 h
  obtain⟨h1,h2⟩:=zd.1 h1
  obtain⟨h2,h3⟩:=zd.1 h2
  obtain⟨h3,h4⟩:=zd.1 h3
  rw[ih0 h0,ih1 h1,ih2 h2,ih3 h3,ih4 h4]
 | ptr id p s =>
  intro w h
  cases w<;>first | (cases h; done) | skip
  obtain⟨h1,h2⟩:=zd.1 h
  obtain⟨h2,h3⟩:=zd.1 h2
  rw[zI h1,WU h2,Shape.eq_of_beq h3]
 | row id s n =>
  intro w h
  cases w<;>first | (cases h; done) | skip
  obtain⟨h1,h2⟩:=zd.1 h
  obtain⟨h2,h3⟩:=zd.1 h2
  rw[zI h1,Shape.eq_of_beq h2,zI h3]
 | sl id p s off len cap =>
  intro w h
  cases w<;>first | (cases h; done) | skip
  obtain⟨h1,h2⟩:=zd.1 h
  obtain⟨h2,h3⟩:=zd.1 h2
  obtain⟨h3,h4⟩:=zd.1 h3
  obtain⟨h4,h5⟩:=zd.1 h4
  obtain⟨h5,h6⟩:=zd.1 h5
  rw[zI h1,WU h2,Shape.eq_of_beq h3,zI h4,zI h5,zqK h6]
 | ref w s c ih =>
  intro w h
  cases w<;>first | (cases h; done) | skip
  obtain⟨h1,h2⟩:=zd.1 h
  obtain⟨h2,h3⟩:=zd.1 h2
  rw[WV h1,Shape.eq_of_beq h2,ih h3]
 | ro u cl s off len c ih =>
  intro w h
  cases w<;>first | (cases h; done) | skip
  obtain⟨h1,h2⟩:=zd.1 h
  obtain⟨h2,h3⟩:=zd.1 h2
  obtain⟨h3,h4⟩:=zd.1 h3
  obtain⟨h4,h5⟩:=zd.1 h4
  obtain⟨h5,h6⟩:=zd.1 h5
  rw[WV h1,WV h2,Shape.eq_of_beq h3,zI h4,zI h5,ih h6]
 | fn f c ih =>
  intro w h
  cases w<;>first | (cases h; done) | skip
  obtain⟨h1,h2⟩:=zd.1 h
  rw[zI h1,ih h2]
 | tup l ih =>
  intro w h
  cases w<;>first | (cases h; done) | skip
  rw[ih h]
 | _=>intro w h; cases w<;>first | rfl | (cases h; done)
def WW:List KV→List KV→Bool
 | [],[]=>true
 | a::l,b::r=>nd (kvb a b) (WW l r)
 | _,_=>false
omit [KGl] in
theorem zhv:∀ {l r:List KV},WW l r=true→l=r
 | [],[],_=>rfl
 | [],_::_,h=>by cases h
 | _::_,[],h=>by cases h
 | a::l,b::r,h=>by
  obtain⟨h1,h2⟩:=zd.1 (show nd (kvb a b) (WW l r)=true from h)
  rw[vC h1,zhv h2]
def tK (b:Bool):Prop:=@Bool.rec (fun _=>Prop) False True b
omit [KGl] in
theorem yg {b:Bool}(h:tK b):b=true:=by
 cases b with
 | true=>rfl
 | false=>exact (show False from h).elim
def kdB (a b:Kind):Bool:=match a,b with
 | .box a,.box b=>Nat.beq a b
 | .row t,.row t'=>Nat.beq t t'
 | .dead,.dead=>true
 | _,_=>false
omit [KGl] in
theorem zvs {a b:Kind}(h:kdB a b=true):a=b:=by
 unfold kdB at h
 split at h
 ·rw[zI h]
 ·rw[zI h]
 ·rfl
 ·cases h
def zfx (a b:Option KBlk):Bool:=match a,b with
 | none,none=>true
 | some x,some y=>nd (kdB x.k y.k) (nd (x.sh.beq y.sh) (kvb x.v y.v))
 | _,_=>false
omit [KGl] in
theorem zqL {a b:Option KBlk}(h:zfx a b=true):a=b:=by
 unfold zfx at h
 split at h
 ·rfl
 ·rename_i x y
  simp only[zd] at h
  obtain⟨h1,h2,h3⟩:=h
  cases x; cases y
  have a:=zvs h1; have b:=Shape.eq_of_beq h2; have c:=vC h3
  simp only at a b c
  subst a; subst b; subst c; rfl
 ·cases h
def zdB (a b:Option KBlk):Bool:=match a,b with
 | some _,some _=>true
 | _,_=>false
def zhw (zm zm':KZ) (lo:Nat) (n:Nat):(List Nat→Prop)→Prop:=@Nat.rec (fun _=>(List Nat→Prop)→Prop) (fun K=>K []) (fun i ih K=>ih fun U=>fN (Nat.add lo i) fun id=>@Bool.rec (fun _=>Prop) (chk (zdB (kb zm id) (kb zm' id)) 250 (K (id::U))) (K U) (zfx (kb zm id) (kb zm' id))) n
theorem zdC {zm zm':KZ}{lo:Nat}:∀(n:Nat) (K:List Nat→Prop),zhw zm zm' lo n K→∃ U,K U∧(∀ id,lo≤id→id < lo + n→id ∉ U→kb zm' id=kb zm id)∧∀ id∈U,lo≤id∧id < lo + n∧(∃ b,am zm id=some b)∧∃ b,am zm' id=some b
 | 0,K,h=>⟨[],h,fun id h1 h2=>by omega,fun id h=>by cases h⟩
 | n + 1,K,h=>by
  obtain⟨U,h1,h2,h3⟩:=zdC n _ (show zhw zm zm' lo n (fun U=>fN (Nat.add lo n) fun id=>@Bool.rec (fun _=>Prop) (chk (zdB (kb zm id) (kb zm' id)) 250 (K (id::U))) (K U) (zfx (kb zm id) (kb zm' id))) from h)
  rw[zU] at h1
  have h1:@Bool.rec (fun _=>Prop) (chk (zdB (kb zm (lo + n)) (kb zm' (lo + n))) 250 (K ((lo + n)::U))) (K U) (zfx (kb zm (lo + n)) (kb zm' (lo + n))):=h1
  cases hb:zfx (kb zm (lo + n)) (kb zm' (lo + n)) with
  | true =>
   rw[hb] at h1
   refine⟨U,h1,fun id q1 q2 q3=>?_,fun id hid=>?_⟩
   ·by_cases e:id=lo + n
    ·subst e; exact (zqL hb).symm
    ·exact h2 id q1 (by omega) q3
   ·obtain⟨a,b,c⟩:=h3 id hid
    exact⟨a,by omega,c⟩
  | false =>
   rw[hb] at h1
   obtain⟨h4,h5⟩:=ze h1
   refine⟨_,h5,fun id q1 q2 q3=>?_,fun id hid=>?_⟩
   ·rw[List.mem_cons,not_or] at q3
    exact h2 id q1 (by omega) q3.2
   ·rcases List.mem_cons.1 hid with rfl | hid
    ·refine⟨by omega,by omega,?_⟩
     unfold zdB at h4
     split at h4
     ·rename_i e1 e2
      exact⟨⟨_,zJ e1⟩,_,zJ e2⟩
     ·cases h4
    ·obtain⟨a,b,c⟩:=h3 id hid
     exact⟨a,by omega,c⟩
end
end Go.K
