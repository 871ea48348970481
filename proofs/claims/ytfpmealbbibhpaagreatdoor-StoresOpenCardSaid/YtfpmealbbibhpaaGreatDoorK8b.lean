/- Single operations: what a strings.Builder does. No condition. -/
import Derived.Test.YtfpmealbbibhpaaGreatDoorK6m
import Derived.Test.YtfpmealbbibhpaaGreatDoorB19
set_option linter.unusedVariables false
set_option linter.unusedSimpArgs false
namespace Go.K
open Go.Ab Go.RowKit Go.Y
noncomputable section
variable [KGl]
section
variable {P:Program}{B:Nat}{o:Oper}{τ:Nat→KV}{lo:Nat}{zm:KZ}{nx:Nat}{K:KT}
omit [KGl] in
theorem byteAt_pk (n s i:Nat) (hi:i < n):byteAt (bytesOf n s) i=.int .u8 (.ofNat (pkr .u8 s i)):=by
  show V.int .u8 ((((List.range n).map fun i=>UInt8.ofNat (pkr .u8 s i)).getD i 0).toNat:Int)=_
  rw[List.getD_eq_getElem?_getD,List.getElem?_map,List.getElem?_range hi,Option.map_some,Option.getD_some,UInt8.toNat_ofNat']
  have:=pkr_lt .u8 s i
  simp only[mdl] at this
  rw[Nat.mod_eq_of_lt (by omega)]; rfl
def apsS (P:Program) (t t':TypeId):Option TypeId:=match P.underlying t,P.underlying t' with
  | some (.slice et),some .string=>match P.info? et with
    | some i=>match i.zero with
      | some (.int .u8 0)=>if i.size=1∧i.bytes=1 then some et else none
      | _=>none
    | none=>none
  | _,_=>none
omit [KGl] in
theorem apsS_s {t t' et:TypeId}(h:apsS P t t'=some et):P.underlying t=some (.slice et)∧P.underlying t'=some .string∧∃ i,P.info? et=some i∧i.zero=some (.int .u8 0)∧i.size=1∧i.bytes=1:=by
  unfold apsS at h
  split at h
  · rename_i et' h1 h2
    split at h
    · rename_i i hi
      split at h
      · rename_i hz
        split at h
        · rename_i hc
          cases h
          exact⟨h1,h2,i,hi,hz,hc.1,hc.2⟩
        · cases h
      · cases h
    · cases h
  · cases h
def kApSN (et:TypeId) (zm:KZ) (nx:Nat) (K:KT) (n s:Nat):Prop :=
  cnd (apB 0 n) (kcat (.int .u8 0) .unk 0 0 (.pk .u8 n s) 0 n fun c'=>nwB (.row et) (.arr n .sc) c' zm nx fun zm nx'=>K (.row nx .sc n) zm nx' [] [])
def kApSW (lo:Nat) (et:TypeId) (zm:KZ) (nx:Nat) (K:KT) (n s:Nat) (id:Nat) (s':Shape) (len:Nat):Prop :=
  oB zm id fun kd sh v=>@Kind.rec (fun _=>Prop) (fun _=>BadN 352) (fun et'=>chk (nd (Nat.ble lo id) (nd (isScB s') (nd (Nat.beq et' et) (nd (Nat.blt id nx) (arK v))))) 353
    (cnd (apB len n) (kcat (.int .u8 0) v 0 len (.pk .u8 n s) 0 n fun c'=>upB id .dead sh .unk zm fun zm=>fN (Nat.add len n) fun m=>nwB (.row et) (.arr m .sc) c' zm nx fun zm nx'=>K (.row nx .sc m) zm nx' [id] []))) (BadN 354) (fun _ _ _ _=>BadN 354) (BadN 354) kd
def kApS (lo:Nat) (P:Program) (t t':TypeId) (x:KV) (zm:KZ) (nx:Nat) (K:KT) (n s:Nat):Prop :=
  os 355 (fun et=>onRow (kApSW lo et zm nx K n s) (onNils (kApSN et zm nx K n s) (BadN 356) x) x) (apsS P t t')
theorem kApS_s {t t':TypeId}{x y:Operand}{n s:Nat}(ho:o.op=.call ⟨.builtin .append,#[x,y],#[t,t']⟩) (hy:kev τ y=.str n s) (h:kApS lo P t t' (kev τ x) zm nx K n s):Out P B o τ lo zm nx K:=by
  have hx:=kev_v τ x
  have hyv:opv Gl.G (tv' τ) y=.str (bytesOf n s):=by rw[←kev_v,hy]; rfl
  have hsz:(bytesOf n s).size=n:=by show ((List.range n).map _).length=n; simp
  obtain⟨et,h1,h2⟩:=os_inv h
  obtain⟨u1,u2,i,hi,hz,hs1,hb1⟩:=apsS_s h1
  rcases onRow_inv h2 with ⟨id,s',len,hp,h8⟩ | ⟨_,h8⟩
  · obtain⟨kd,sh,v,hb,h9⟩:=oB_inv h8
    cases kd with
    | box=>exact (show BadN 352 from h9).elim
    | dead=>exact (show BadN 354 from h9).elim
    | lp k ps x y=>exact (show BadN 354 from h9).elim
    | mp=>exact (show BadN 354 from h9).elim
    | row et' =>
      obtain⟨h10,h11⟩:=chk_inv h9
      obtain⟨h12,h13⟩:=cnd_iff.1 h11
      simp only[nd_iff] at h10
      obtain⟨q1,q2,q3,q4,q5⟩:=h10
      obtain rfl:=isScB_s q2
      obtain rfl:=beqE q3
      obtain⟨n1,f0,hf,hf'⟩:=arK_s q5
      obtain⟨c',g,h14,h15,h16⟩:=kcat_s h13
      rw[hp] at hx
      have h17:upB id .dead sh .unk zm fun zm=>nwB (.row et') (.arr (len + n) .sc) c' zm nx fun zm nx'=>K (.row nx .sc (len + n)) zm nx' [id] []:=by
        rw[upB_eq,fN_eq] at h14
        rw[upB_eq]; exact h14
      have hap:len + n≤134217728:=Nat.le_of_ble_eq_true h12
      have hop:=sem_append_str (ρ:=opv Gl.G (tv' τ)) (m:=am zm) (n:=nx) (B:=B) (P:=P) (b:=bytesOf n s) (len0:=len) (f0:=f0) (old:=some (id,⟨.row et',sh,v.v⟩)) ho u1 u2 hi hz hs1 hb1
        (.inr ⟨id,_,n1,rfl,hx.symm,by rw[am_some hb]; rfl,rfl,hf⟩) hyv (by rw[hsz]; exact hap) (fun x hx=>by cases hx; exact nblt.1 q4)
      rw[hsz] at hop
      refine Out.upnew (v:=.row nx .sc (len + n)) (e:=⟨.row nx .sc (len + n),[(id,⟨.dead,sh,.unk⟩)],[⟨.row et',.arr (len + n) .sc,.arr (len + n) (appF len f0 (byteAt (bytesOf n s)))⟩],[]⟩) (nblt.1 q4) h17 (Nat.le_of_ble_eq_true q1) ⟨hop,UpIn.one (am_some hb)⟩ ?_
      refine⟨Imp.refl _,rfl,rfl,rfl,fun M n' i b hb'=>?_⟩
      unfold put touch at hb' ⊢
      simp only[List.length_cons,List.length_nil] at hb' ⊢
      by_cases hin:n'≤i∧i < n' + (0 + 1)
      · rw[if_pos hin] at hb' ⊢
        obtain rfl:i=n':=by omega
        simp only[Nat.sub_self,List.getElem?_cons_zero] at hb' ⊢
        cases hb'
        refine⟨_,rfl,.inr ⟨rfl,rfl,?_,fun h=>(by cases h)⟩⟩
        rw[h15]
        exact cpImp (h0:=fun i=>(kidx (0 + i) v).v) (fun i hi=>by
          rw[h16 i hi]
          by_cases hl:i < len
          · rw[if_pos hl,if_pos hl]
          · rw[if_neg hl,if_neg hl,Nat.zero_add,byteAt_pk _ _ _ (by omega),kidx_v]; rfl) (fun i hi=>by rw[hf',Nat.zero_add])
      · rw[if_neg hin] at hb' ⊢
        exact⟨b,hb',BImp.refl b⟩
  rcases onNils_inv h8 with ⟨hp,h8⟩ | ⟨_,h8⟩
  · obtain⟨h12,h13⟩:=cnd_iff.1 h8
    obtain⟨c',g,h14,h15,h16⟩:=kcat_s h13
    rw[hp] at hx
    have hap:0 + n≤134217728:=Nat.le_of_ble_eq_true h12
    have hop:=sem_append_str (ρ:=opv Gl.G (tv' τ)) (m:=am zm) (n:=nx) (B:=B) (P:=P) (b:=bytesOf n s) (len0:=0) (f0:=fun _=>.unk) (old:=none) ho u1 u2 hi hz hs1 hb1
      (.inl ⟨rfl,hx.symm,rfl⟩) hyv (by rw[hsz]; exact hap) (fun x hx=>by cases hx)
    rw[hsz,Nat.zero_add] at hop
    refine Out.new (v:=.row nx .sc n) (e:=⟨.row nx .sc n,[],[⟨.row et,.arr n .sc,.arr n (appF 0 (fun _=>.unk) (byteAt (bytesOf n s)))⟩],[]⟩) h14 ⟨hop,UpIn.nil⟩ ?_
    rw[v_row]
    refine EImp.new (Imp.refl _) (.inr ⟨rfl,rfl,?_,fun h=>(by cases h)⟩)
    show Imp _ c'.v
    rw[h15]
    have h17:=cpImp (len:=0) (k:=n) (f0:=fun _=>.unk) (f:=byteAt (bytesOf n s)) (g:=g) (h0:=fun _=>.unk) (fun i hi=>by
      rw[h16 i hi,if_neg (by omega),if_neg (by omega),Nat.zero_add,byteAt_pk _ _ _ (by omega),kidx_v]; rfl) (fun i hi=>by omega)
    rw[Nat.zero_add] at h17 ⊢
    exact h17
  · exact h8.elim
def kAppX (lo:Nat) (P:Program) (t t':TypeId) (x y:KV) (zm:KZ) (nx:Nat) (K:KT):Prop:=onStr (kApS lo P t t' x zm nx K) (kAppend lo P t t' x y zm nx K) y
theorem kAppX_s {t t':TypeId}{x y:Operand}(ho:o.op=.call ⟨.builtin .append,#[x,y],#[t,t']⟩) (h:kAppX lo P t t' (kev τ x) (kev τ y) zm nx K):Out P B o τ lo zm nx K:=by
  rcases onStr_inv h with ⟨n,s,hy,h1⟩ | ⟨_,h1⟩
  · exact kApS_s ho hy h1
  · exact kAppend_s ho h1
def kSdat (x:KV) (zm:KZ) (nx:Nat) (K:KT):Prop:=onNils (K .nilp zm nx [] []) (onRow (fun id s len=>oB zm id fun kd _ _=>@Kind.rec (fun _=>Prop) (fun _=>BadN 340) (fun _=>chk (Nat.blt 0 len) 341 (K (.ptr id [.idx 0] s) zm nx [] [id])) (BadN 340) (fun _ _ _ _=>BadN 340) (BadN 340) kd) (BadN 342) x) x
theorem kSdat_s {ts:Array TypeId}{x:Operand}(ho:o.op=.call ⟨.builtin .unsafeSliceData,#[x],ts⟩) (h:kSdat (kev τ x) zm nx K):Out P B o τ lo zm nx K:=by
  have hx:=kev_v τ x
  rcases onNils_inv h with ⟨hp,h1⟩ | ⟨_,h1⟩
  · rw[hp] at hx
    exact Out.pure (e:=pureE .nilp) h1 ⟨sem_sdat_nil ho hx.symm,UpIn.nil⟩ (EImp.refl _)
  rcases onRow_inv h1 with ⟨id,s,len,hp,h2⟩ | ⟨_,h2⟩
  · obtain⟨kd,sh,v,hb,h3⟩:=oB_inv h2
    rw[hp] at hx
    cases kd with
    | box=>exact (show BadN 340 from h3).elim
    | dead=>exact (show BadN 340 from h3).elim
    | lp k ps x y=>exact (show BadN 340 from h3).elim
    | mp=>exact (show BadN 340 from h3).elim
    | row et =>
      obtain⟨h4,h5⟩:=chk_inv h3
      exact Out.pure (e:=⟨.ptr id [.idx 0] s,[],[],[id]⟩) h5 ⟨sem_sdat (blk:=⟨.row et,sh,v.v⟩) ho hx.symm (nblt.1 h4) (am_some hb) rfl,UpIn.rdL (fun i hi=>by rw[List.mem_singleton] at hi; subst hi; exact⟨_,am_some hb⟩)⟩ (EImp.refl _)
  · exact h2.elim
def idx0 (p:List Step):Bool:=match p with
  | [.idx 0]=>true
  | _=>false
def ptrTo (P:Program) (pt e:TypeId):Bool:=match P.underlying pt with
  | some (.pointer e')=>Nat.beq e' e
  | _=>false
def arrScN (sh:Shape) (len:Nat):Bool:=match sh with
  | .arr n .sc=>Nat.ble len n
  | _=>false
def kUstrP (P:Program) (lo:Nat) (pt:TypeId) (zm:KZ) (nx:Nat) (K:KT) (len:Nat) (id:Nat) (p:List Step):Prop :=
  chk (idx0 p) 344 (oB zm id fun kd sh v=>@Kind.rec (fun _=>Prop) (fun _=>BadN 345) (fun e=>chk (nd (Nat.ble lo id) (nd (Nat.ble len 9223372036854775807) (nd (ptrTo P pt e) (nd (Nat.beq (P.cellsOf e) 1) (arrScN sh len))))) 346 (onPk (fun k n z=>chk (ikEq k .u8) 347 (fN (pkx .u8 z 0 len) fun z'=>upB id .dead sh .unk zm fun zm=>K (.str len z') zm nx [id] [])) (BadN 348) v)) (BadN 345) (fun _ _ _ _=>BadN 345) (BadN 345) kd)
def kUstr (P:Program) (lo:Nat) (pt:TypeId) (x y:KV) (zm:KZ) (nx:Nat) (K:KT):Prop :=
  onInt (fun k a=>chk (ikEq k .i64) 343 (@Int.rec (fun _=>Prop) (fun len=>@Bool.rec (fun _=>Prop) (onPtr (fun id p _=>kUstrP P lo pt zm nx K len id p) (BadN 349) x)
    (onNilp (K (.str 0 0) zm nx [] []) (onPtr (fun _ _ _=>K (.str 0 0) zm nx [] []) (BadN 349) x) x) (Nat.beq len 0)) (fun _=>BadN 350) a)) (BadN 351) y
theorem kUstr_s {pt it:TypeId}{x y:Operand}(ho:o.op=.call ⟨.builtin .unsafeString,#[x,y],#[pt,it]⟩) (h:kUstr P lo pt (kev τ x) (kev τ y) zm nx K):Out P B o τ lo zm nx K:=by
  have hx:=kev_v τ x
  have hy:=kev_v τ y
  obtain⟨k,a,ha,h1⟩:=(onInt_inv h).resolve_right fun h=>(show BadN 351 from h.2).elim
  obtain⟨h2,h3⟩:=chk_inv h1
  obtain rfl:=ikEq_eq h2
  rw[ha] at hy
  cases a with
  | negSucc a=>exact (show BadN 350 from h3).elim
  | ofNat len =>
    replace h3:@Bool.rec (fun _=>Prop) (onPtr (fun id p _=>kUstrP P lo pt zm nx K len id p) (BadN 349) (kev τ x)) (onNilp (K (.str 0 0) zm nx [] []) (onPtr (fun _ _ _=>K (.str 0 0) zm nx [] []) (BadN 349) (kev τ x)) (kev τ x)) (Nat.beq len 0):=h3
    cases hl:Nat.beq len 0 with
    | true =>
      rw[hl] at h3
      obtain rfl:=beqE hl
      have hy0:opv Gl.G (tv' τ) y=.int .i64 0:=hy.symm
      have fin:K (.str 0 0) zm nx [] []→(opv Gl.G (tv' τ) x=.nilp∨∃ id p s,opv Gl.G (tv' τ) x=.ptr id p s)→Out P B o τ lo zm nx K:=fun hk hh =>
        Out.pure (e:=pureE (.str ⟨#[]⟩)) hk ⟨sem_ustr_none ho hh hy0,UpIn.nil⟩ (EImp.refl _)
      rcases onNilp_inv h3 with ⟨hp,h4⟩ | ⟨_,h4⟩
      · exact fin h4 (.inl (by rw[←hx,hp]; rfl))
      · obtain⟨id,p,s,hp,h5⟩:=(onPtr_inv h4).resolve_right fun h=>(show BadN 349 from h.2).elim
        exact fin h5 (.inr ⟨_,_,_,by rw[←hx,hp]; rfl⟩)
    | false =>
      rw[hl] at h3
      have hpos:0 < len:=Nat.pos_of_ne_zero (Nat.ne_of_beq_eq_false hl)
      obtain⟨id,p,s,hp,h4⟩:=(onPtr_inv h3).resolve_right fun h=>(show BadN 349 from h.2).elim
      obtain⟨h5,h6⟩:=chk_inv h4
      obtain rfl:p=[.idx 0]:=by
        unfold idx0 at h5
        split at h5
        · rfl
        · cases h5
      rw[hp] at hx
      obtain⟨kd,sh,v,hb,h7⟩:=oB_inv h6
      cases kd with
      | box=>exact (show BadN 345 from h7).elim
      | dead=>exact (show BadN 345 from h7).elim
      | lp k ps x y=>exact (show BadN 345 from h7).elim
      | mp=>exact (show BadN 345 from h7).elim
      | row e =>
        obtain⟨h8,h9⟩:=chk_inv h7
        simp only[nd_iff] at h8
        obtain⟨q1,q2,q3,q4,q5⟩:=h8
        obtain⟨k,n,z,rfl,h10⟩:=(onPk_inv h9).resolve_right fun h=>(show BadN 348 from h.2).elim
        obtain⟨h11,h12⟩:=chk_inv h10
        obtain rfl:=ikEq_eq h11
        rw[fN_eq] at h12
        have hpt:P.underlying pt=some (.pointer e):=by
          unfold ptrTo at q3
          split at q3
          · rw[←beqE q3]; assumption
          · cases q3
        obtain⟨n2,rfl,hle⟩:∃ n2,sh=.arr n2 .sc∧len≤n2:=by
          unfold arrScN at q5
          split at q5
          · exact⟨_,rfl,Nat.le_of_ble_eq_true q5⟩
          · cases q5
        have hop:=sem_ustr (ρ:=opv Gl.G (tv' τ)) (m:=am zm) (n:=nx) (B:=B) (P:=P) (blk:=⟨.row e,.arr n2 .sc,(KV.pk .u8 n z).v⟩) (f:=fun i=>V.int .u8 (dec .u8 (pkr .u8 z i))) (n1:=n) (l:=(List.range len).map fun i=>UInt8.ofNat (pkr .u8 (pkx .u8 z 0 len) i))
          ho hx.symm hy.symm hpos (Nat.le_of_ble_eq_true q2) (am_some hb) rfl rfl (by rw[v_pk]; rfl) hle hpt (beqE q4) (by simp) (fun j hj=>by
            rw[List.getD_eq_getElem?_getD,List.getElem?_map,List.getElem?_range hj,Option.map_some,Option.getD_some,UInt8.toNat_ofNat',pkr_pkx hj,Nat.zero_add]
            have:=pkr_lt .u8 z j
            simp only[mdl] at this
            rw[Nat.mod_eq_of_lt (by omega)]; rfl)
        exact Out.up (v:=.str len (pkx .u8 z 0 len)) (e:=⟨_,[(id,⟨.dead,.arr n2 .sc,.unk⟩)],[],[]⟩) h12 (Nat.le_of_ble_eq_true q1) ⟨hop,UpIn.one (am_some hb)⟩ (EImp.refl _)
def unsT (P:Program) (t:TypeId):Bool:=match P.underlying t with
  | some .unsafePointer=>true
  | _=>false
def ptrSz (P:Program) (t:TypeId):Bool:=match P.underlying t with
  | some (.pointer u)=>match P.info? u with
    | some j=>!(Nat.beq j.size 0)
    | none=>false
  | _=>false
def ptrInf (P:Program) (t:TypeId) (f:TypeId→Bool):Bool:=match P.underlying t with
  | some (.pointer u)=>match P.info? u with
    | some _=>f u
    | none=>false
  | _=>false
def stepC (a b:Step):Bool:=match a,b with
  | .fld i,.fld j=>Nat.beq i j
  | .idx i,.idx j=>Nat.beq i j
  | _,_=>false
def pathC:List Step→List Step→Bool
  | [],[]=>true
  | a::p,b::q=>nd (stepC a b) (pathC p q)
  | _,_=>false
omit [KGl] in
theorem pathC_s:∀ {p q:List Step},pathC p q=true→p=q
  | [],[],_=>rfl
  | [],_::_,h=>by cases h
  | _::_,[],h=>by cases h
  | a::p,b::q,h=>by
    obtain⟨h1,h2⟩:=nd_iff.1 (show nd (stepC a b) (pathC p q)=true from h)
    rw[pathC_s h2]
    unfold stepC at h1
    split at h1
    · rw[beqE h1]
    · rw[beqE h1]
    · cases h1
def offP (p:List Step) (sh:Shape) (f:Nat→Bool):Bool:=match Shape.path p sh with
  | some (o,_)=>f o
  | none=>false
omit [KGl] in
theorem offP_s {p:List Step}{sh:Shape}{f:Nat→Bool}(h:offP p sh f=true):∃ o s',Shape.path p sh=some (o,s')∧f o=true:=by
  unfold offP at h
  split at h
  · exact⟨_,_,‹_›,h⟩
  · cases h
def kToU (P:Program) (src:TypeId) (x:KV) (zm:KZ) (nx:Nat) (K:KT):Prop :=
  onPtr (fun id p _=>chk (ptrSz P src) 360 (oB zm id fun kd sh _=>@Kind.rec (fun _=>Prop) (fun _=>chk (offP p sh fun o=>Nat.blt o sh.size) 361 (K x zm nx [] [id])) (fun _=>BadN 362) (BadN 362) (fun _ _ _ _=>BadN 362) (BadN 362) kd)) (BadN 363) x
def kFrU (P:Program) (dst:TypeId) (x:KV) (zm:KZ) (nx:Nat) (K:KT):Prop :=
  onPtr (fun id p _=>oB zm id fun kd sh _=>@Kind.rec (fun _=>Prop) (fun T=>chk (offP p sh fun o=>ptrInf P dst fun u=>liesAt P P.depth T (sh.size / P.cellsOf T) o u 1) 365 (K x zm nx [] [id])) (fun _=>BadN 366) (BadN 366) (fun _ _ _ _=>BadN 366) (BadN 366) kd) (BadN 367) x
def kConvU (lo:Nat) (P:Program) (src dst:TypeId) (x:KV) (zm:KZ) (nx:Nat) (K:KT):Prop :=
  onPtr (fun _ _ _=>@Bool.rec (fun _=>Prop) (chk (unsT P src) 368 (kFrU P dst x zm nx K)) (kToU P src x zm nx K) (unsT P dst)) (kConv lo P src dst x zm nx K) x
omit [KGl] in
theorem unsT_s {t:TypeId}(h:unsT P t=true):P.underlying t=some .unsafePointer:=by
  unfold unsT at h
  split at h
  · assumption
  · cases h
theorem kConvU_s {src dst:TypeId}{x:Operand}(ho:o.op=.convert src dst x) (h:kConvU lo P src dst (kev τ x) zm nx K):Out P B o τ lo zm nx K:=by
  have hx:=kev_v τ x
  rcases onPtr_inv h with ⟨id,p,s,hp,h1⟩ | ⟨_,h1⟩
  · cases hd:unsT P dst with
    | true =>
      rw[hd] at h1
      obtain⟨id',p',s',hp',h2⟩:=(onPtr_inv (show kToU P src (kev τ x) zm nx K from h1)).resolve_right fun h=>(show BadN 363 from h.2).elim
      rw[hp] at hp'; cases hp'
      obtain⟨h6,h4⟩:=chk_inv h2
      obtain⟨kd,sh,v,hb,h7⟩:=oB_inv h4
      rw[hp] at hx
      cases kd with
      | row=>exact (show BadN 362 from h7).elim
      | dead=>exact (show BadN 362 from h7).elim
      | lp k ps x y=>exact (show BadN 362 from h7).elim
      | mp=>exact (show BadN 362 from h7).elim
      | box T =>
        obtain⟨h8,h9⟩:=chk_inv h7
        obtain⟨o',s'',hpa,h8⟩:=offP_s h8
        obtain⟨t,j,u1,u2,u3⟩:∃ t j,P.underlying src=some (.pointer t)∧P.info? t=some j∧j.size≠0:=by
          unfold ptrSz at h6
          split at h6
          · rename_i u hu
            split at h6
            · rename_i j hj
              exact⟨u,j,hu,hj,fun q=>by rw[q] at h6; cases h6⟩
            · cases h6
          · cases h6
        rw[hp] at h9
        exact Out.pure (v:=.ptr id p s) (e:=⟨.ptr id p s,[],[],[id]⟩) h9 ⟨sem_toU (blk:=⟨.box T,sh,v.v⟩) ho hx.symm (am_some hb) rfl hpa (nblt.1 h8) u1 (unsT_s hd) u2 u3,UpIn.rdL (fun i hi=>by rw[List.mem_singleton] at hi; subst hi; exact⟨_,am_some hb⟩)⟩ (EImp.refl _)
    | false =>
      rw[hd] at h1
      obtain⟨hs,h1⟩:=chk_inv h1
      obtain⟨id',p',s',hp',h2⟩:=(onPtr_inv (show kFrU P dst (kev τ x) zm nx K from h1)).resolve_right fun h=>(show BadN 367 from h.2).elim
      rw[hp] at hp'; cases hp'
      obtain⟨kd,sh,v,hb,h7⟩:=oB_inv h2
      rw[hp] at hx
      cases kd with
      | row=>exact (show BadN 366 from h7).elim
      | dead=>exact (show BadN 366 from h7).elim
      | lp k ps x y=>exact (show BadN 366 from h7).elim
      | mp=>exact (show BadN 366 from h7).elim
      | box T =>
        obtain⟨h8,h9⟩:=chk_inv h7
        obtain⟨o',s'',hpa,h8⟩:=offP_s h8
        obtain⟨u,j,u1,u2,u3⟩:∃ u j,P.underlying dst=some (.pointer u)∧P.info? u=some j∧liesAt P P.depth T (sh.size / P.cellsOf T) o' u 1=true:=by
          unfold ptrInf at h8
          split at h8
          · rename_i u hu
            split at h8
            · rename_i j hj
              exact⟨u,j,hu,hj,h8⟩
            · cases h8
          · cases h8
        rw[hp] at h9
        exact Out.pure (v:=.ptr id p s) (e:=⟨.ptr id p s,[],[],[id]⟩) h9 ⟨sem_frU (blk:=⟨.box T,sh,v.v⟩) ho hx.symm (am_some hb) rfl hpa (unsT_s hs) u1 u2 u3,UpIn.rdL (fun i hi=>by rw[List.mem_singleton] at hi; subst hi; exact⟨_,am_some hb⟩)⟩ (EImp.refl _)
  · exact kConv_s ho h1
def kPtrEq (P:Program) (op:BinOp) (t:TypeId) (id:Nat) (p:List Step) (s:Shape) (id':Nat) (p':List Step) (s':Shape) (zm:KZ) (nx:Nat) (K:KT):Prop :=
  chk (nd (Nat.beq id id') (nd (pathC p p') (nd (s.beq s') (ptrInf P t fun _=>true)))) 370 (eqn op true fun b=>K (.bool b) zm nx [] [])
def kBinJ (P:Program) (op:BinOp) (t:TypeId) (cst:Bool) (x y:KV) (zm:KZ) (nx:Nat) (K:KT):Prop :=
  onPtr (fun id p s=>onPtr (fun id' p' s'=>kPtrEq P op t id p s id' p' s' zm nx K) (kBinI P op t cst x y zm nx K) y) (kBinI P op t cst x y zm nx K) x
theorem kBinJ_s {op:BinOp}{t t':TypeId}{x y:Operand}(ho:o.op=.binOp op t x y t') (h:kBinJ P op t (cstO x||cstO y) (kev τ x) (kev τ y) zm nx K):Out P B o τ lo zm nx K:=by
  have hx:=kev_v τ x
  have hy:=kev_v τ y
  rcases onPtr_inv h with ⟨id,p,s,hp,h1⟩ | ⟨_,h1⟩
  · rcases onPtr_inv h1 with ⟨id',p',s',hp',h2⟩ | ⟨_,h2⟩
    · obtain⟨h3,h4⟩:=chk_inv h2
      simp only[nd_iff] at h3
      obtain⟨q1,q2,q4,q5⟩:=h3
      obtain rfl:=beqE q1
      obtain rfl:=pathC_s q2
      obtain rfl:=Shape.eq_of_beq q4
      obtain⟨u,j,u1,u2⟩:∃ u j,P.underlying t=some (.pointer u)∧P.info? u=some j:=by
        unfold ptrInf at q5
        split at q5
        · rename_i u hu
          split at q5
          · rename_i j hj
            exact⟨u,j,hu,hj⟩
          · cases q5
        · cases q5
      rw[hp] at hx; rw[hp'] at hy
      rcases eqn_inv h4 with ⟨rfl,h5⟩ | ⟨rfl,h5⟩
      · exact Out.pure (e:=pureE (.bool true)) h5 ⟨sem_ptrEq ho (.inl rfl) hx.symm hy.symm u1 u2,UpIn.nil⟩ (EImp.refl _)
      · exact Out.pure (e:=pureE (.bool false)) h5 ⟨sem_ptrEq ho (.inr rfl) hx.symm hy.symm u1 u2,UpIn.nil⟩ (EImp.refl _)
    · exact kBinI_s ho h2
  · exact kBinI_s ho h1
end
end
end Go.K
