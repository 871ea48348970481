/- A run that the kernel carries out, over trees: what single operations do, and that the model does the same. No condition. A run that the kernel carries out, over trees: regions, calls, code. No condition. The run is right: names replaced, contracts, temporaries, results. No condition. The run is right: contracts, temporaries, results, calls. No condition. -/
import Derived.Test.YtfpmealbbibhpaaGreatDoorB16
set_option linter.unusedVariables false
set_option linter.unusedSimpArgs false
namespace Go.Y
open Go.Ab Go.RowKit
noncomputable section
variable [Gl]
def yExtract (x:V) (k:Nat):RS:=match x with
  | .tup l=>match l.nth k with
    | some v=>okE v
    | none=>.bad
  | _=>.bad
def yPick (c a b:V):RS:=match c with
  | .bool t=>okE (V.ite t a b)
  | _=>.bad
def yBuiltin (P:Program) (b:Builtin) (ts:List TypeId) (args:List V) (m:Mem) (n:Nat):RS :=
  match b,ts,args with
  | .len,[t],[x]=>yLen P t x
  | .cap,[t],[x]=>yCap P t x
  | .min,_,[x,y]=>yMin x y
  | .append,[t,t'],[x,y]=>yAppend P t t' x y m n
  | .copy,[t,_],[x,y]=>yCopy P t x y m
  | _,_,_=>.bad
def yMk (P:Program) (t:TypeId) (l c:Operand) (x y:V) (n:Nat):RS:=yMake P t true x y n
def yBS (P:Program) (t:TypeId) (len:Nat) (ps:List (Nat×V)) (n:Nat):RS:=match len,ps with
  | 0,[]=>match P.underlying t with
    | some (.slice et)=>match zero? P et with
      | some (s,z)=>.ok ⟨.row n s 0,[],[⟨.row et,.arr 0 s,.arr 0 fun _=>z⟩],[]⟩
      | none=>.bad
    | _=>.bad
  | len,ps=>yBuildSlice P t len ps n
def isIntV:V→Bool
  | .int ..=>true
  | _=>false
def yConvA (P:Program) (src dst:TypeId) (x:V) (m:Mem):RS:=@Bool.rec (fun _=>RS) (yConvS P src dst x m) (yConv P src dst x) (isIntV x)
def strB:V→V→Bool
  | .str _,_=>true
  | _,.nilp=>true
  | _,_=>false
def yBinA (P:Program) (op:BinOp) (t:TypeId) (x y:V):RS:=@Bool.rec (fun _=>RS) (yBin P op t x y) (yBinS P op t x y) (strB x y)
def yMakeFunc (f:Fn) (a:List Operand) (caps:List V):RS:=match f,a with
  | .func f,[]=>.tst (Nat.blt f 1073741824) (pureE (.fn f (mkL caps)))
  | _,_=>.bad
def yop1 (P:Program) (o:Op) (ρ:Operand→V) (m:Mem) (n:Nat):RS :=
  match o with
  | .move x=>okE (ρ x)
  | .assign x=>okE (ρ x)
  | .pick c a b=>yPick (ρ c) (ρ a) (ρ b)
  | .alloc t=>yAlloc P t n
  | .box t x=>yBox P t (ρ x) n
  | .build t ps=>yBuild P t (ps.toList.map fun x=>(x.1,ρ x.2))
  | .buildSlice t len ps=>yBS P t len (ps.toList.map fun x=>(x.1,ρ x.2)) n
  | .load t x=>yLoad P t (ρ x) m
  | .store t a x=>yStore P t (ρ a) (ρ x) m
  | .nilCheck x=>yNil (ρ x)
  | .binOp op t x y _=>yBinA P op t (ρ x) (ρ y)
  | .unOp op _ x=>yUn op (ρ x)
  | .convert src dst x=>yConvA P src dst (ρ x) m
  | .fieldAddr st x f=>yField P st (ρ x) f
  | .indexAddr t x ix=>yIndex P t (ρ x) (ρ ix) m
  | .extract x k=>yExtract (ρ x) k
  | .makeFunc f a cap=>yMakeFunc f a.toList (cap.toList.map ρ)
  | .call ⟨.builtin b,args,ts⟩=>yBuiltin P b ts.toList (args.toList.map ρ) m n
  | .slice t x lo hi mx=>ySlice P t (ρ x) (lo.map ρ) (hi.map ρ) (mx.map ρ) m
  | .makeSlice t l c=>yMk P t l c (ρ l) (ρ c) n
  | .index t x ix=>yIndexV P t (ρ x) (ρ ix)
  | .field t x k=>yFieldV P t (ρ x) k
  | .sliceToArrayPointer t x=>yArr P t (ρ x)
  | _=>.bad
omit [Gl] in
theorem okE_is {v:V}{e:Eff}(h:(okE v).is e):e=pureE v:=(show pureE v=e from h).symm
omit [Gl] in
theorem ite_is {c:Prop} [Decidable c] {r:RS}{e:Eff}(h:(if c then r else RS.bad).is e):c∧r.is e:=by
  by_cases hc:c
  · rw[if_pos hc] at h; exact⟨hc,h⟩
  · rw[if_neg hc] at h; exact h.elim
section
variable {P:Program}{B:Nat}{o:Oper}{ρ:Operand→V}{m:Mem}{n:Nat}{e:Eff}
structure UpIn (m:Mem) (e:Eff):Prop where
  up:∀ x∈e.up,∃ b,m x.1=some b
  rd:∀ id∈e.rd,∃ b,m id=some b
omit [Gl] in
theorem UpIn.nil {v:V}{nw:List Blk}:UpIn m ⟨v,[],nw,[]⟩:=⟨(fun _ h=>(by cases h)),(fun _ h=>(by cases h))⟩
omit [Gl] in
theorem UpIn.rd1 {v:V}{id:Nat}{c:Blk}{nw:List Blk}(h:m id=some c):UpIn m ⟨v,[],nw,[id]⟩:=⟨(fun _ h=>(by cases h)),fun x hx=>by
  simp only[List.mem_singleton] at hx
  subst hx
  exact⟨c,h⟩⟩
omit [Gl] in
theorem UpIn.one {v:V}{id:Nat}{b c:Blk}{nw:List Blk}(h:m id=some c):UpIn m ⟨v,[(id,b)],nw,[]⟩:=⟨fun x hx=>by
  simp only[List.mem_singleton] at hx
  subst hx
  exact⟨c,h⟩,(fun _ h=>(by cases h))⟩
theorem yAlloc_s {t:TypeId}(ho:o.op=.alloc t) (h:(yAlloc P t n).is e):OpSem P B o ρ m n e∧UpIn m e:=by
  unfold yAlloc at h
  split at h
  · rename_i s z hz
    cases (show _=e from h)
    exact⟨sem_alloc ho hz,UpIn.nil⟩
  · exact h.elim
theorem yBox_s {t:TypeId}{x:Operand}(ho:o.op=.box t x) (h:(yBox P t (ρ x) n).is e):OpSem P B o ρ m n e∧UpIn m e:=by
  unfold yBox at h
  split at h
  · obtain⟨hc,h⟩:=ite_is h
    simp only[Bool.and_eq_true] at hc
    cases (show _=e from h)
    exact⟨sem_box ho hc.1 hc.2,UpIn.nil⟩
  · exact h.elim
theorem yBuild_s {t:TypeId}{ps:Array (Nat×Operand)}(ho:o.op=.build t ps) (h:(yBuild P t (ps.toList.map fun x=>(x.1,ρ x.2))).is e):OpSem P B o ρ m n e∧UpIn m e:=by
  unfold yBuild at h
  simp only[bsetX_eq] at h
  split at h
  · rename_i s z st pl hz hpl
    obtain⟨hc,h⟩:=ite_is h
    cases okE_is h
    exact⟨sem_build ho hz hpl hc,UpIn.nil⟩
  · exact h.elim
theorem yBuildSlice_s {t:TypeId}{len:Nat}{ps:Array (Nat×Operand)}(ho:o.op=.buildSlice t len ps) (h:(yBuildSlice P t len (ps.toList.map fun x=>(x.1,ρ x.2)) n).is e):OpSem P B o ρ m n e∧UpIn m e:=by
  unfold yBuildSlice at h
  simp only[bsetX_eq] at h
  split at h
  · rename_i et hu
    split at h
    · rename_i s z hz
      obtain⟨hc,h⟩:=ite_is h
      simp only[Bool.and_eq_true,decide_eq_true_eq] at hc
      cases (show _=e from h)
      exact⟨sem_buildSlice ho hu hz hc.1.1 hc.1.2 hc.2,UpIn.nil⟩
    · exact h.elim
  · exact h.elim
theorem yLoad_s {t:TypeId}{x:Operand}(ho:o.op=.load t x) (h:(yLoad P t (ρ x) m).is e):OpSem P B o ρ m n e∧UpIn m e:=by
  unfold yLoad at h
  split at h
  · rename_i s d hs hd
    split at h
    · rename_i id p s' hx
      split at h
      · rename_i blk hm
        obtain⟨hc,h⟩:=ite_is h
        simp only[Bool.and_eq_true] at hc
        cases (show _=e from h)
        obtain rfl:=Shape.eq_of_beq hc.2
        exact⟨sem_load ho hx hm hc.1 hs hd,UpIn.rd1 hm⟩
      · exact h.elim
    · rename_i u s' c hx
      obtain⟨hc,h⟩:=ite_is h
      cases okE_is h
      obtain rfl:=Shape.eq_of_beq hc
      exact⟨sem_load_ref ho hx hs hd,UpIn.nil⟩
    · exact h.elim
  · exact h.elim
theorem yStore_s {t:TypeId}{a x:Operand}(ho:o.op=.store t a x) (h:(yStore P t (ρ a) (ρ x) m).is e):OpSem P B o ρ m n e∧UpIn m e:=by
  unfold yStore at h
  simp only[setX_eq] at h
  split at h
  · rename_i s hs
    split at h
    · rename_i id p s' hx
      split at h
      · rename_i blk hm
        obtain⟨hc,h⟩:=ite_is h
        simp only[Bool.and_eq_true] at hc
        cases (show _=e from h)
        obtain rfl:=Shape.eq_of_beq hc.1.1.2
        exact⟨sem_store ho hx hm hc.1.1.1 hs hc.1.2 hc.2,UpIn.one hm⟩
      · exact h.elim
    · exact h.elim
  · exact h.elim
theorem yNil_s {x:Operand}(ho:o.op=.nilCheck x) (h:(yNil (ρ x)).is e):OpSem P B o ρ m n e∧UpIn m e:=by
  unfold yNil at h
  split at h
  · rename_i hx; cases okE_is h; exact⟨sem_nilCheck ho (.inl ⟨_,_,_,hx⟩),UpIn.nil⟩
  · rename_i hx; cases okE_is h; exact⟨sem_nilCheck ho (.inr (.inl ⟨_,_,_,hx⟩)),UpIn.nil⟩
  · rename_i f c hx
    obtain⟨h1,rfl⟩:=(show _∧_ from h)
    exact⟨sem_nilCheck ho (.inr (.inr ⟨_,_,hx,by simpa [Nat.blt_eq] using h1⟩)),UpIn.nil⟩
  · exact h.elim
theorem yBin_s {op:BinOp}{t t':TypeId}{x y:Operand}(ho:o.op=.binOp op t x y t') (h:(yBin P op t (ρ x) (ρ y)).is e):OpSem P B o ρ m n e∧UpIn m e:=by
  unfold yBin at h
  split at h
  · rename_i k a k' b hx hy
    split at h
    · obtain⟨h1,rfl⟩:=(show _∧_ from h); exact⟨sem_shift ho (.inl rfl) hx hy (by simpa [geB,leI_eq] using h1),UpIn.nil⟩
    · obtain⟨h1,rfl⟩:=(show _∧_ from h); exact⟨sem_shift ho (.inr rfl) hx hy (by simpa [geB,leI_eq] using h1),UpIn.nil⟩
    · obtain⟨hk,h2⟩:=ite_is h
      clear h
      obtain rfl:=ikEq_eq hk
      obtain⟨h1,rfl⟩:=(show _∧_ from h2); exact⟨sem_bin ho hx hy (by simpa [neB,binOk,eqI_eq] using h1),UpIn.nil⟩
    · obtain⟨hk,h2⟩:=ite_is h
      clear h
      obtain rfl:=ikEq_eq hk
      obtain⟨h1,rfl⟩:=(show _∧_ from h2); exact⟨sem_bin ho hx hy (by simpa [neB,binOk,eqI_eq] using h1),UpIn.nil⟩
    · rename_i h1 h2 h3 h4
      obtain⟨hk,h5⟩:=ite_is h
      clear h
      obtain rfl:=ikEq_eq hk
      cases okE_is h5
      refine⟨sem_bin ho hx hy ?_,UpIn.nil⟩
      unfold binOk
      split
      · exact absurd rfl h3
      · exact absurd rfl h4
      · exact absurd rfl h1
      · exact absurd rfl h2
      · trivial
  · rename_i a b hx hy
    split at h
    · rename_i hu
      split at h
      · cases okE_is h; exact⟨sem_eq_bool ho (.inl rfl) hx hy hu,UpIn.nil⟩
      · cases okE_is h; exact⟨sem_eq_bool ho (.inr rfl) hx hy hu,UpIn.nil⟩
      · exact h.elim
    · exact h.elim
  · obtain⟨hc,h⟩:=ite_is h
    simp only[Bool.and_eq_true,Bool.not_eq_true'] at hc
    obtain⟨⟨⟨⟨⟨⟨c1,c2⟩,c3⟩,c4⟩,c5⟩,c6⟩,c7⟩:=hc
    split at h
    · cases okE_is h; exact⟨sem_eq_agg ho (.inl rfl) c3 c4 c5 c6 c1 c2 c7,UpIn.nil⟩
    · cases okE_is h; exact⟨sem_eq_agg ho (.inr rfl) c3 c4 c5 c6 c1 c2 c7,UpIn.nil⟩
    · exact h.elim
theorem yUn_s {op:UnOp}{t:TypeId}{x:Operand}(ho:o.op=.unOp op t x) (h:(yUn op (ρ x)).is e):OpSem P B o ρ m n e∧UpIn m e:=by
  unfold yUn at h
  split at h
  · rename_i b hx; cases okE_is h; exact⟨sem_not ho hx,UpIn.nil⟩
  · rename_i k a hx; cases okE_is h; exact⟨sem_unary ho (.inl rfl) hx,UpIn.nil⟩
  · rename_i k a hx; cases okE_is h; exact⟨sem_unary ho (.inr rfl) hx,UpIn.nil⟩
  · exact h.elim
theorem yConv_s {src dst:TypeId}{x:Operand}(ho:o.op=.convert src dst x) (h:(yConv P src dst (ρ x)).is e):OpSem P B o ρ m n e∧UpIn m e:=by
  unfold yConv at h
  split at h
  · rename_i k0 a k d hx hd hs
    cases okE_is h; exact⟨sem_conv ho hx hd (by rw[hs]; rfl),UpIn.nil⟩
  · exact h.elim
theorem yField_s {st:TypeId}{x:Operand}{f:Nat}(ho:o.op=.fieldAddr st x f) (h:(yField P st (ρ x) f).is e):OpSem P B o ρ m n e∧UpIn m e:=by
  unfold yField at h
  split at h
  · rename_i fs hu
    split at h
    · rename_i fd hf
      split at h
      · rename_i i hi
        split at h
        · exact h.elim
        · rename_i hz
          split at h
          · rename_i id p s hx
            split at h
            · rename_i d s' hs
              obtain⟨hd,h5⟩:=ite_is h
              clear h
              subst hd
              cases okE_is h5; exact⟨sem_fieldAddr ho hx hu hf hi hz hs,UpIn.nil⟩
            · exact h.elim
          · rename_i u s c hx
            split at h
            · rename_i d s' hs
              obtain⟨hd,h5⟩:=ite_is h
              clear h
              subst hd
              cases okE_is h5; exact⟨sem_fieldAddr_ref ho hx hu hf hi hz hs,UpIn.nil⟩
            · exact h.elim
          · exact h.elim
      · exact h.elim
    · exact h.elim
  · exact h.elim
theorem yIndex_s {t:TypeId}{x ix:Operand}(ho:o.op=.indexAddr t x ix) (h:(yIndex P t (ρ x) (ρ ix) m).is e):OpSem P B o ρ m n e∧UpIn m e:=by
  unfold yIndex at h
  split at h
  · rename_i k j hix
    split at h
    · rename_i len el hu
      split at h
      · rename_i i hi
        split at h
        · rename_i id p len' e' hx
          obtain⟨⟨rfl,hz⟩,h⟩:=ite_is h
          obtain⟨h1,rfl⟩:=(show _∧_ from h)
          exact⟨sem_indexAddr_array ho hx hix hu hi hz (by simpa [ixB,leI_eq,ltI_eq] using h1),UpIn.nil⟩
        · rename_i u len' e' c hx
          obtain⟨⟨rfl,hz⟩,h⟩:=ite_is h
          obtain⟨h1,rfl⟩:=(show _∧_ from h)
          exact⟨sem_indexAddr_ref ho hx hix hu hi hz (by simpa [ixB,leI_eq,ltI_eq] using h1),UpIn.nil⟩
        · exact h.elim
      · exact h.elim
    · rename_i el hu
      split at h
      · rename_i i hi
        split at h
        · rename_i id e' len hx
          split at h
          · rename_i blk hm
            obtain⟨⟨hz,hal⟩,h⟩:=ite_is h
            obtain⟨h1,rfl⟩:=(show _∧_ from h)
            exact⟨sem_indexAddr_row ho hx hix hm hal hu hi hz (by simpa [ixB,leI_eq,ltI_eq] using h1),UpIn.rd1 hm⟩
          · exact h.elim
        · rename_i id p e' off len cap hx
          obtain⟨hz,h⟩:=ite_is h
          obtain⟨h1,rfl⟩:=(show _∧_ from h)
          exact⟨sem_indexAddr_sl ho hx hix hu hi hz (by simpa [ixB,leI_eq,ltI_eq] using h1),UpIn.nil⟩
        · rename_i u clip e' len f hx
          obtain⟨hz,h⟩:=ite_is h
          obtain⟨h1,rfl⟩:=(show _∧_ from h)
          exact⟨sem_indexAddr_ro ho hx hix hu hi hz (by simpa [ixB,leI_eq,ltI_eq] using h1),UpIn.nil⟩
        · exact h.elim
      · exact h.elim
    · exact h.elim
  · exact h.elim
theorem yExtract_s {x:Operand}{k:Nat}(ho:o.op=.extract x k) (h:(yExtract (ρ x) k).is e):OpSem P B o ρ m n e∧UpIn m e:=by
  unfold yExtract at h
  split at h
  · rename_i l hx
    split at h
    · rename_i v hv
      cases okE_is h; exact⟨sem_extract ho hx hv,UpIn.nil⟩
    · exact h.elim
  · exact h.elim
theorem yPick_s {c a b:Operand}(ho:o.op=.pick c a b) (h:(yPick (ρ c) (ρ a) (ρ b)).is e):OpSem P B o ρ m n e∧UpIn m e:=by
  unfold yPick at h
  split at h
  · rename_i t hc
    cases okE_is h; exact⟨sem_pick ho hc,UpIn.nil⟩
  · exact h.elim
theorem yMakeFunc_s {f:Fn}{a cap:Array Operand}(ho:o.op=.makeFunc f a cap) (h:(yMakeFunc f a.toList (cap.toList.map ρ)).is e):OpSem P B o ρ m n e∧UpIn m e:=by
  unfold yMakeFunc at h
  split at h
  · rename_i f' ha
    obtain⟨l⟩:=a
    obtain rfl:l=[]:=by simpa using ha
    have h:Nat.blt f' 1073741824=true∧_:=h
    obtain⟨h1,rfl⟩:=h
    exact⟨sem_makeFunc ho (by rw[Nat.blt_eq] at h1; exact h1),UpIn.nil⟩
  · exact h.elim
theorem yLen_s {t:TypeId}{x:Operand}(ho:o.op=.call ⟨.builtin .len,#[x],#[t]⟩) (h:(yLen P t (ρ x)).is e):OpSem P B o ρ m n e∧UpIn m e:=by
  unfold yLen at h
  split at h
  · rename_i e' hu
    split at h
    · rename_i k hk
      cases okE_is h; exact⟨sem_len ho hk hu,UpIn.nil⟩
    · exact h.elim
  · rename_i hu
    split at h
    · rename_i s hs
      cases okE_is h; exact⟨sem_len_str ho hs hu,UpIn.nil⟩
    · exact h.elim
  · rename_i k e' hu
    cases okE_is h; exact⟨sem_len_arr ho hu,UpIn.nil⟩
  · exact h.elim
omit [Gl] in
theorem map_one {l:List Operand}{v:V}(h:l.map ρ=[v]):∃ x,l=[x]∧ρ x=v:=by
  match l,h with
  | [x],h=>exact⟨x,rfl,by simpa using h⟩
omit [Gl] in
theorem map_two {l:List Operand}{v w:V}(h:l.map ρ=[v,w]):∃ x y,l=[x,y]∧ρ x=v∧ρ y=w:=by
  match l,h with
  | [x,y],h=>simp only[List.map_cons,List.map_nil,List.cons.injEq,and_true] at h; exact⟨x,y,rfl,h.1,h.2⟩
omit [Gl] in
theorem arr_of {α:Type}{a:Array α}{l:List α}(h:a.toList=l):a=⟨l⟩:=by obtain⟨k⟩:=a; exact congrArg Array.mk h
omit [Gl] in
theorem tst_is {c:Bool}{e':Eff}(h:(RS.tst c e').is e):c=true∧e'=e:=h
theorem yCap_s {t:TypeId}{x:Operand}(ho:o.op=.call ⟨.builtin .cap,#[x],#[t]⟩) (h:(yCap P t (ρ x)).is e):OpSem P B o ρ m n e∧UpIn m e:=by
  unfold yCap at h
  split at h
  · rename_i e' hu
    split at h
    · rename_i k hk
      cases okE_is h; exact⟨sem_cap ho hk hu,UpIn.nil⟩
    · exact h.elim
  · exact h.elim
theorem yMin_s {ts:Array TypeId}{x y:Operand}(ho:o.op=.call ⟨.builtin .min,#[x,y],ts⟩) (h:(yMin (ρ x) (ρ y)).is e):OpSem P B o ρ m n e∧UpIn m e:=by
  unfold yMin at h
  split at h
  · rename_i k a k' b hx hy
    cases okE_is h; exact⟨sem_min ho hx hy,UpIn.nil⟩
  · exact h.elim
omit [Gl] in
theorem UpIn.rdL {v:V}{nw:List Blk}{rd:List Nat}(h:∀ id∈rd,∃ b,m id=some b):UpIn m ⟨v,[],nw,rd⟩:=⟨(fun _ h=>(by cases h)),h⟩
omit [Gl] in
theorem UpIn.oneL {v:V}{id:Nat}{b c:Blk}{nw:List Blk}{rd:List Nat}(h1:m id=some c) (h:∀ id∈rd,∃ b,m id=some b):UpIn m ⟨v,[(id,b)],nw,rd⟩:=⟨fun x hx=>by
  simp only[List.mem_singleton] at hx
  subst hx
  exact⟨c,h1⟩,h⟩
theorem yAppend_s {t t':TypeId}{x y:Operand}(ho:o.op=.call ⟨.builtin .append,#[x,y],#[t,t']⟩) (h:(yAppend P t t' (ρ x) (ρ y) m n).is e):OpSem P B o ρ m n e∧UpIn m e:=by
  unfold yAppend at h
  obtain⟨rfl,h⟩:=ite_is h
  split at h
  · rename_i et hu
    split at h
    · rename_i s z i hz hi
      obtain⟨⟨hby,hpos⟩,h⟩:=ite_is h
      split at h
      · rename_i s' k f rd hy
        obtain⟨hs,h⟩:=ite_is h
        obtain rfl:=Shape.eq_of_beq hs
        have hrd:=srcW_rd hy
        unfold yApp at h
        simp only[appX_eq,setX_eq,cpX_eq] at h
        split at h
        · rename_i hx
          obtain⟨h1,rfl⟩:=tst_is h
          exact⟨sem_append (old:=none) ho hu hz hi hby hpos (.inl ⟨rfl,hx,rfl⟩) hy (by simpa [apB] using h1) (fun _ h=>by cases h),UpIn.rdL hrd⟩
        · rename_i id s2 len hx
          split at h
          · rename_i blk hm
            split at h
            · rename_i et' n1 f0 hk hv
              obtain⟨⟨hs2,rfl,hlt⟩,h⟩:=ite_is h
              obtain rfl:=Shape.eq_of_beq hs2
              obtain⟨h1,rfl⟩:=tst_is h
              exact⟨sem_append (old:=some (id,blk)) ho hu hz hi hby hpos (.inr ⟨id,blk,n1,rfl,hx,hm,hk,hv⟩) hy (by simpa [apB] using h1) (fun x hx=>by cases hx; simpa using hlt),UpIn.oneL hm hrd⟩
            · exact h.elim
          · exact h.elim
        · rename_i u s2 len f0 hx
          obtain⟨hs2,h⟩:=ite_is h
          obtain rfl:=Shape.eq_of_beq hs2
          obtain⟨h1,rfl⟩:=tst_is h
          simp only[Bool.and_eq_true,apB,Nat.ble_eq,Nat.blt_eq] at h1
          exact⟨sem_append_ro ho hu hz hi hby hpos hx hy h1.1 h1.2,UpIn.rdL hrd⟩
        · rename_i id p s2 off len cap hx
          split at h
          · rename_i blk hm
            split at h
            · rename_i N f0 hv0
              obtain⟨⟨ha,hs2⟩,h⟩:=ite_is h
              obtain rfl:=Shape.eq_of_beq hs2
              by_cases hc:Nat.ble (len + k) cap=true
              · rw[if_pos hc] at h
                obtain⟨h1,rfl⟩:=tst_is h
                obtain⟨i',zv,hi',_,hsz,_,_⟩:=zero_of hz
                rw[hi] at hi'; cases hi'
                exact⟨sem_append_sl ho hu hi hsz hx hm ha hv0 hy (Nat.le_of_ble_eq_true hc) (Nat.le_of_ble_eq_true h1),UpIn.oneL hm hrd⟩
              · rw[if_neg hc] at h
                obtain⟨h1,rfl⟩:=tst_is h
                simp only[Bool.and_eq_true,apB,Nat.ble_eq,Nat.blt_eq] at h1
                rw[Nat.ble_eq] at hc
                exact⟨sem_append_slg ho hu hz hi hby hpos hx hm ha hv0 hy h1.1 (by omega) h1.2,UpIn.rdL (by
                  intro i hi
                  rcases List.mem_cons.1 hi with rfl | hi
                  · exact⟨_,hm⟩
                  · exact hrd i hi)⟩
            · exact h.elim
          · exact h.elim
        · exact h.elim
      · exact h.elim
    · exact h.elim
  · exact h.elim
theorem yCopy_s {t t':TypeId}{x y:Operand}(ho:o.op=.call ⟨.builtin .copy,#[x,y],#[t,t']⟩) (h:(yCopy P t (ρ x) (ρ y) m).is e):OpSem P B o ρ m n e∧UpIn m e:=by
  unfold yCopy at h
  simp only[setX_eq,cpX_eq] at h
  split at h
  · rename_i et hu
    split at h
    · rename_i i id p e0 off len cap hi hx
      split at h
      · rename_i blk hm
        split at h
        · rename_i N f0 e' k f rd hv0 hy
          obtain⟨⟨ha,he,hz⟩,h9⟩:=ite_is h
          clear h
          obtain rfl:=Shape.eq_of_beq he
          cases (show _=e from h9)
          exact⟨sem_copy ho hx hm ha hv0 hy hu hi hz,UpIn.oneL hm (srcW_rd hy)⟩
        · exact h.elim
      · exact h.elim
    · exact h.elim
  · exact h.elim
theorem yBuiltin_s {b:Builtin}{args:Array Operand}{ts:Array TypeId}(ho:o.op=.call ⟨.builtin b,args,ts⟩) (h:(yBuiltin P b ts.toList (args.toList.map ρ) m n).is e):OpSem P B o ρ m n e∧UpIn m e:=by
  unfold yBuiltin at h
  split at h
  · rename_i t v hts hargs
    obtain⟨x,hx,rfl⟩:=map_one hargs
    rw[arr_of hx,arr_of hts] at ho
    exact yLen_s ho h
  · rename_i t v hts hargs
    obtain⟨x,hx,rfl⟩:=map_one hargs
    rw[arr_of hx,arr_of hts] at ho
    exact yCap_s ho h
  · rename_i v w hargs
    obtain⟨x,y,hx,rfl,rfl⟩:=map_two hargs
    rw[arr_of hx] at ho
    exact yMin_s ho h
  · rename_i t t' v w hts hargs
    obtain⟨x,y,hx,rfl,rfl⟩:=map_two hargs
    rw[arr_of hx,arr_of hts] at ho
    exact yAppend_s ho h
  · rename_i t t' v w hts hargs
    obtain⟨x,y,hx,rfl,rfl⟩:=map_two hargs
    rw[arr_of hx,arr_of hts] at ho
    exact yCopy_s ho h
  · exact h.elim
omit [Gl] in
theorem slB_bds {lo hi mx:Option Operand}{l h:Int}{len:Nat}{mv:Option Int}(h1:V.bnd 0 (lo.map ρ)=some l) (h2:V.bnd len (hi.map ρ)=some h) (h3:V.mxb (mx.map ρ)=some mv) (h4:((mx.map ρ).isNone||(hi.map ρ).isSome)=true) (hb:slB l h len mv=true):Bds ρ lo hi mx len l h mv:=by
  simp only[slB,leI_eq,Bool.and_eq_true,decide_eq_true_eq,Int.ofNat_eq_natCast] at hb
  refine⟨h1,h2,h3,?_,hb.1.1,hb.1.2.1,hb.1.2.2,?_⟩
  · rintro rfl
    cases mx with
    | none=>rfl
    | some _=>simp at h4
  · rintro m rfl
    simpa using hb.2
theorem ySlice_s {t:TypeId}{x:Operand}{lo hi mx:Option Operand}(ho:o.op=.slice t x lo hi mx) (h:(ySlice P t (ρ x) (lo.map ρ) (hi.map ρ) (mx.map ρ) m).is e):OpSem P B o ρ m n e∧UpIn m e:=by
  unfold ySlice at h
  obtain⟨h4,h⟩:=ite_is h
  split at h
  · rename_i l mv h1 h3
    split at h
    · rename_i el hu
      unfold ySl at h
      split at h
      · rename_i i hi'
        split at h
        · rename_i u clip e' len f hx
          obtain⟨hz,h⟩:=ite_is h
          split at h
          · rename_i hh h2
            obtain⟨hb,rfl⟩:=tst_is h
            exact⟨sem_slice_roM ho hx hu hi' hz (slB_bds h1 h2 h3 h4 hb),UpIn.nil⟩
          · exact h.elim
        · rename_i id e' len hx
          split at h
          · rename_i blk hm
            obtain⟨⟨hz,ha⟩,h⟩:=ite_is h
            split at h
            · rename_i hh h2
              obtain⟨hb,rfl⟩:=tst_is h
              exact⟨sem_slice_row ho hx hm ha hu hi' hz (slB_bds h1 h2 h3 h4 hb),UpIn.rd1 hm⟩
            · exact h.elim
          · exact h.elim
        · rename_i id p e' off len cap hx
          obtain⟨hz,h⟩:=ite_is h
          split at h
          · rename_i hh h2
            obtain⟨hb,rfl⟩:=tst_is h
            exact⟨sem_slice_sl ho hx hu hi' hz (slB_bds h1 h2 h3 h4 hb),UpIn.nil⟩
          · exact h.elim
        · rename_i hx
          split at h
          · rename_i hh h2
            obtain⟨hb,rfl⟩:=tst_is h
            exact⟨sem_slice_nils ho hx hu hi' (slB_bds h1 h2 h3 h4 hb),UpIn.nil⟩
          · exact h.elim
        · exact h.elim
      · exact h.elim
    · rename_i N el hu
      unfold ySla at h
      split at h
      · rename_i i hh hi' h2
        split at h
        · rename_i id p N' e' hx
          obtain⟨⟨rfl,hz⟩,h⟩:=ite_is h
          obtain⟨hb,rfl⟩:=tst_is h
          exact⟨sem_slice_ptr ho hx hu hi' hz (slB_bds h1 h2 h3 h4 hb),UpIn.nil⟩
        · rename_i u N' e' N2 f hx
          obtain⟨⟨rfl,rfl,hz⟩,h⟩:=ite_is h
          obtain⟨hb,rfl⟩:=tst_is h
          exact⟨sem_slice_ref ho hx hu hi' hz (slB_bds h1 h2 h3 h4 hb),UpIn.nil⟩
        · exact h.elim
      · exact h.elim
    · rename_i hu
      split at h
      · rename_i s hx
        split at h
        · rename_i hh h2
          obtain⟨hb,rfl⟩:=tst_is h
          have hb':=slB_bds h1 h2 h3 h4 hb
          obtain rfl:mx=none:=by
            cases mx with
            | none=>rfl
            | some y =>
              simp only[Option.map_some] at h3
              cases hy:ρ y<;>rw[hy] at h3<;>simp [V.mxb] at h3
          exact⟨sem_slice_str ho hx hu hb',UpIn.nil⟩
        · exact h.elim
      · exact h.elim
    · exact h.elim
  · exact h.elim
theorem yMk_s {t:TypeId}{l c:Operand}(ho:o.op=.makeSlice t l c) (h:(yMk P t l c (ρ l) (ρ c) n).is e):OpSem P B o ρ m n e∧UpIn m e:=by
  unfold yMk yMake at h
  split at h
  · rename_i et hu
    split at h
    · rename_i s z i hz hi
      obtain⟨hby,h⟩:=ite_is h
      split at h
      · rename_i k a k' b hl hc
        obtain⟨hb,h⟩:=tst_is h
        simp only[mkB,leI_eq,Bool.and_eq_true,decide_eq_true_eq] at hb
        have e1:((a.toNat:Nat):Int)=a:=Int.toNat_of_nonneg hb.1
        have e2:((b.toNat:Nat):Int)=b:=Int.toNat_of_nonneg (by omega)
        rw[←e1] at hl
        rw[←e2] at hc
        split at h
        · subst h
          exact⟨sem_makeSl ho hl hc hu hz hi hby (by omega) (by omega),UpIn.nil⟩
        · subst h
          exact⟨sem_makeRow ho hl hc hu hz hi hby (by omega) (by omega),UpIn.nil⟩
      · exact h.elim
    · exact h.elim
  · exact h.elim
theorem yBS_s {t:TypeId}{len:Nat}{ps:Array (Nat×Operand)}(ho:o.op=.buildSlice t len ps) (h:(yBS P t len (ps.toList.map fun x=>(x.1,ρ x.2)) n).is e):OpSem P B o ρ m n e∧UpIn m e:=by
  unfold yBS at h
  split at h
  · rename_i hps
    split at h
    · rename_i et hu
      split at h
      · rename_i s z hz
        cases (show _=e from h)
        have:ps=#[]:=by
          obtain⟨l⟩:=ps
          have:l=[]:=by simpa using hps
          rw[this]
        subst this
        exact⟨sem_buildNone ho hu hz,UpIn.nil⟩
      · exact h.elim
    · exact h.elim
  · exact yBuildSlice_s ho h
theorem yIndexV_s {t:TypeId}{x ix:Operand}(ho:o.op=.index t x ix) (h:(yIndexV P t (ρ x) (ρ ix)).is e):OpSem P B o ρ m n e∧UpIn m e:=by
  unfold yIndexV at h
  split at h
  · rename_i k j hix
    split at h
    · rename_i s hu hx
      obtain⟨hb,rfl⟩:=tst_is h
      exact⟨sem_index_str ho hx hix hu (by simpa [ixB,leI_eq,ltI_eq] using hb),UpIn.nil⟩
    · rename_i N el N' f hu hx
      split at h
      · rename_i s d hs hd
        obtain⟨rfl,h⟩:=ite_is h
        obtain⟨hb,rfl⟩:=tst_is h
        simp only[ixB,leI_eq,ltI_eq,Bool.and_eq_true,decide_eq_true_eq,Int.ofNat_eq_natCast] at hb
        exact⟨sem_index_arr ho hx hix hu hs hd hb.2 hb.1,UpIn.nil⟩
      · exact h.elim
    · exact h.elim
  · exact h.elim
theorem yFieldV_s {t:TypeId}{x:Operand}{k:Nat}(ho:o.op=.field t x k) (h:(yFieldV P t (ρ x) k).is e):OpSem P B o ρ m n e∧UpIn m e:=by
  unfold yFieldV at h
  split at h
  · rename_i fs s hu hs
    split at h
    · rename_i fd d s' hf hk
      split at h
      · rename_i s2 dd hs2 hd
        obtain⟨⟨h1,h2,h3,h4⟩,h9⟩:=ite_is h
        clear h
        obtain rfl:=Shape.eq_of_beq h4
        cases okE_is h9
        exact⟨sem_field ho rfl h1 hu hf hs h2 hk h3 hs2 hd,UpIn.nil⟩
      · exact h.elim
    · exact h.elim
  · exact h.elim
theorem yConvS_s {src dst:TypeId}{x:Operand}(ho:o.op=.convert src dst x) (h:(yConvS P src dst (ρ x) m).is e):OpSem P B o ρ m n e∧UpIn m e:=by
  unfold yConvS at h
  split at h
  · rename_i hs hd
    split at h
    · rename_i s hx
      cases okE_is h
      refine⟨OpSem.pure fun C M ρc _ _ hrel=>?_,UpIn.nil⟩
      have h0:=hrel x (by simp [ho,Op.operands])
      rw[hx] at h0
      have h0':ρc x=.string s:=h0
      exact⟨.string s,by simp [execOp,ho,h0',convert,run_underlying hs,run_underlying hd],by rw[hx]; rfl⟩
    · exact h.elim
  · rename_i e' hs hd
    split at h
    · rename_i s he hx
      cases okE_is h
      exact⟨sem_str_bytes ho hx hs hd he,UpIn.nil⟩
    · exact h.elim
  · rename_i e' hs hd
    split at h
    · rename_i he
      split at h
      · rename_i len f rd hx
        split at h
        · rename_i l hl
          cases (show _=e from h)
          exact⟨sem_bytes_str ho hx hl rfl hs he hd,UpIn.rdL (srcW_rd hx)⟩
        · exact h.elim
      · exact h.elim
    · exact h.elim
  · rename_i e' e2 hs hd
    obtain⟨heq,h9⟩:=ite_is h
    clear h
    have h:=h9
    clear h9
    subst heq
    split at h
    · rename_i id len he hx
      split at h
      · rename_i blk hm
        split at h
        · rename_i et n1 f hk hv
          split at h
          · rename_i l hl
            obtain⟨hlt,h⟩:=ite_is h
            cases (show _=e from h)
            exact⟨sem_mark ho hx (by simpa using hlt) hm hk hv hs he rfl hl,UpIn.one hm⟩
          · exact h.elim
        · exact h.elim
      · exact h.elim
    · exact h.elim
  · exact h.elim
theorem yConvA_s {src dst:TypeId}{x:Operand}(ho:o.op=.convert src dst x) (h:(yConvA P src dst (ρ x) m).is e):OpSem P B o ρ m n e∧UpIn m e:=by
  unfold yConvA at h
  cases hi:isIntV (ρ x)<;>rw[hi] at h
  · exact yConvS_s ho h
  · exact yConv_s ho h
theorem yArr_s {t:TypeId}{x:Operand}(ho:o.op=.sliceToArrayPointer t x) (h:(yArr P t (ρ x)).is e):OpSem P B o ρ m n e∧UpIn m e:=by
  unfold yArr at h
  split at h
  · rename_i N el u clip e' len f hu hx
    obtain⟨hb,rfl⟩:=tst_is h
    simp only[Bool.and_eq_true,Nat.blt_eq,Nat.ble_eq] at hb
    exact⟨sem_arr_ro ho hx hu hb.1 hb.2,UpIn.nil⟩
  · exact h.elim
theorem yBinS_s {op:BinOp}{t t':TypeId}{x y:Operand}(ho:o.op=.binOp op t x y t') (h:(yBinS P op t (ρ x) (ρ y)).is e):OpSem P B o ρ m n e∧UpIn m e:=by
  unfold yBinS at h
  split at h
  · rename_i a b hx hy
    split at h
    · cases okE_is h; exact⟨sem_eq_str ho (.inl rfl) hx hy,UpIn.nil⟩
    · cases okE_is h; exact⟨sem_eq_str ho (.inr rfl) hx hy,UpIn.nil⟩
    · exact h.elim
  · rename_i hy
    split at h
    · rename_i e' b hu hb
      split at h
      · cases okE_is h; exact⟨sem_eq_nil ho (.inl rfl) hb hy hu,UpIn.nil⟩
      · cases okE_is h; exact⟨sem_eq_nil ho (.inr rfl) hb hy hu,UpIn.nil⟩
      · exact h.elim
    · exact h.elim
  · exact h.elim
theorem yBinA_s {op:BinOp}{t t':TypeId}{x y:Operand}(ho:o.op=.binOp op t x y t') (h:(yBinA P op t (ρ x) (ρ y)).is e):OpSem P B o ρ m n e∧UpIn m e:=by
  unfold yBinA at h
  cases hi:strB (ρ x) (ρ y)<;>rw[hi] at h
  · exact yBin_s ho h
  · exact yBinS_s ho h
theorem yop1_s (h:(yop1 P o.op ρ m n).is e):OpSem P B o ρ m n e∧UpIn m e:=by
  cases ho:o.op with
  | move x=>rw[ho] at h; cases okE_is (show (okE (ρ x)).is e from h); exact⟨sem_move (.inl ho),UpIn.nil⟩
  | assign x=>rw[ho] at h; cases okE_is (show (okE (ρ x)).is e from h); exact⟨sem_move (.inr ho),UpIn.nil⟩
  | pick c a b=>rw[ho] at h; exact yPick_s ho h
  | alloc t=>rw[ho] at h; exact yAlloc_s ho h
  | box t x=>rw[ho] at h; exact yBox_s ho h
  | build t ps=>rw[ho] at h; exact yBuild_s ho h
  | buildSlice t l ps=>rw[ho] at h; exact yBS_s ho h
  | load t x=>rw[ho] at h; exact yLoad_s ho h
  | store t a x=>rw[ho] at h; exact yStore_s ho h
  | nilCheck x=>rw[ho] at h; exact yNil_s ho h
  | binOp op t x y t1=>rw[ho] at h; exact yBinA_s ho h
  | unOp op t x=>rw[ho] at h; exact yUn_s ho h
  | convert s d x=>rw[ho] at h; exact yConvA_s ho h
  | fieldAddr t x i=>rw[ho] at h; exact yField_s ho h
  | indexAddr t x i=>rw[ho] at h; exact yIndex_s ho h
  | extract x k=>rw[ho] at h; exact yExtract_s ho h
  | makeFunc f a c=>rw[ho] at h; exact yMakeFunc_s ho h
  | slice t x lo hi mx=>rw[ho] at h; exact ySlice_s ho h
  | makeSlice t l c=>rw[ho] at h; exact yMk_s ho h
  | index t x ix=>rw[ho] at h; exact yIndexV_s ho h
  | field t x k=>rw[ho] at h; exact yFieldV_s ho h
  | sliceToArrayPointer t x=>rw[ho] at h; exact yArr_s ho h
  | call c =>
    rw[ho] at h
    obtain⟨ce,args,ts⟩:=c
    cases ce with
    | builtin b=>exact yBuiltin_s ho h
    | _=>exact h.elim
  | _=>rw[ho] at h; exact h.elim
end
end
end Go.Y
set_option linter.constructorNameAsVariable false
namespace Go.Y
open Go.Ab Go.RowKit
noncomputable section
variable [Gl]
inductive BadV (o:Op):Prop
inductive BadN (n:Nat):Prop
omit [Gl] in
theorem BadV.elim {o:Op}{p:Prop}(h:BadV o):p:=(by cases h)
omit [Gl] in
theorem BadN.elim {n:Nat}{p:Prop}(h:BadN n):p:=(by cases h)
def forceV (v:V) (K:V→Prop):Prop :=
  @V.rec (fun _=>Prop) (fun k n=>K (.int k n)) (fun b=>K (.bool b)) (fun s=>K (.str s)) (K .nl) (fun h t _ _=>K (.cons h t)) (fun n f _=>K (.arr n f)) (fun id p s=>K (.ptr id p s)) (fun id e n=>K (.row id e n))
    (fun id p e off len cap=>K (.sl id p e off len cap)) (fun w s c _=>K (.ref w s c)) (K .nilp) (K .nils) (K .nilf) (fun w clip s len f _=>K (.ro w clip s len f)) (fun f c _=>K (.fn f c)) (fun l _=>K (.tup l)) (K .unk) (fun id=>K (.yld id)) v
omit [Gl] in
theorem forceV_eq (v:V) (K:V→Prop):forceV v K=K v:=by cases v<;>rfl
def forceKd (k:Kind) (K:Kind→Prop):Prop:=@Kind.rec (fun _=>Prop) (fun t=>K (.box t)) (fun e=>K (.row e)) (K .dead) (fun m ps a b=>K (.lp m ps a b)) (K .mp) k
omit [Gl] in
theorem forceKd_eq (v:Kind) (K:Kind→Prop):forceKd v K=K v:=by cases v<;>rfl
def forceB (b:Blk) (K:Option Blk→Prop):Prop:=@Blk.rec (fun _=>Prop) (fun k sh v=>forceKd k fun k=>forceV v fun v=>K (some ⟨k,sh,v⟩)) b
omit [Gl] in
theorem forceB_eq (b:Blk) (K:Option Blk→Prop):forceB b K=K (some b):=by
  obtain⟨k,sh,v⟩:=b
  unfold forceB
  show forceKd k (fun k=>forceV v fun v=>K (some ⟨k,sh,v⟩))=_
  rw[forceKd_eq,forceV_eq]
def mapL (g:V→V):V→V
  | .cons h t=>.cons (mapL g h) (mapL g t)
  | .arr n f=>.arr n fun i=>mapL g (f i)
  | .fn f c=>.fn f (mapL g c)
  | .tup l=>.tup (mapL g l)
  | v=>g v
def cutL (v:V):V:=match v with
  | .ptr .. | .row .. | .sl .. | .yld _=>.unk
  | v=>v
def capIs (cap:Option Nat) (len:Nat):Bool:=match cap with
  | some k=>Nat.beq k len
  | none=>false
def leafZ (m:Mem) (g:V→V) (v:V):V:=match v with
  | .ptr id p s=>match m id with
    | some blk=>if blk.alive then .ref false s (g (blk.v.path p)) else .unk
    | none=>.unk
  | .row id e n=>match m id with
    | some blk=>if blk.alive then match blk.v with
      | .arr _ f=>.ro false false e n fun i=>g (f i)
      | _=>.unk
      else .unk
    | none=>.unk
  | .sl id p e off len cap=>match m id with
    | some blk=>if blk.alive then match blk.v.path p with
      | .arr _ f=>.ro false (capIs cap len) e len fun i=>g (f (off + i))
      | _=>.unk
      else .unk
    | none=>.unk
  | .yld _=>.unk
  | v=>v
def frz (m:Mem):Nat→V→V
  | 0=>mapL cutL
  | k + 1=>mapL (leafZ m (frz m k))
def resM (m:Mem):V→Option (Bool×V×List Nat)
  | .row id e n=>match m id with
    | some blk=>if blk.alive then match blk.v with
      | .arr _ f=>some ((List.range n).all fun i=>noId (f i),.ro false false e n f,[id])
      | _=>none
      else none
    | none=>none
  | .sl id p e off len cap=>match m id with
    | some blk=>if blk.alive then match blk.v.path p with
      | .arr _ f=>some ((List.range len).all fun i=>noId (f (off + i)),.ro false (capIs cap len) e len (fun i=>f (off + i)),[id])
      | _=>none
      else none
    | none=>none
  | .ptr id p s=>match m id with
    | some blk=>if blk.alive&&noId (blk.v.path p) then some (true,.ref false s (blk.v.path p),[id]) else none
    | none=>none
  | .cons h t=>match resM m h,resM m t with
    | some (p,h',r),some (q,t',r')=>some (p&&q,.cons h' t',r++r')
    | _,_=>none
  | .tup l=>match resM m l with
    | some (p,l',r)=>some (p,.tup l',r)
    | none=>none
  | v=>if noId v then some (true,v,[]) else none
abbrev KT:=V→Zm→Nat→List Nat→List Nat→Prop
abbrev CL:=V→List V→Zm→Nat→KT→Prop
def upK (l:List (Nat×Blk)):Zm→(Zm→Prop)→Prop:=@List.rec (Nat×Blk) (fun _=>Zm→(Zm→Prop)→Prop) (fun zm K=>K zm) (fun x _ ih zm K=>ih zm fun zm=>forceB x.2 fun b=>setTK b (enc x.1) zm K) l
def nwK (l:List Blk):Zm→Nat→(Zm→Nat→Prop)→Prop:=@List.rec Blk (fun _=>Zm→Nat→(Zm→Nat→Prop)→Prop) (fun zm nx K=>K zm nx) (fun b _ ih zm nx K=>forceB b fun b=>setTK b (enc nx) zm fun zm=>forceN (Nat.succ nx) fun nx=>ih zm nx K) l
def apK (e:Eff) (zm:Zm) (nx:Nat) (K:KT):Prop:=upK e.up zm fun zm=>nwK e.nw zm nx fun zm nx=>K e.v zm nx (e.up.map (·.1)) e.rd
def rsK (o:Op) (r:RS) (zm:Zm) (nx:Nat) (K:KT):Prop:=@RS.rec (fun _=>Prop) (BadV o) (fun e=>apK e zm nx K) (fun c e=>cnd c (apK e zm nx K)) (fun p e=>p∧apK e zm nx K) r
def ev (G:Nat→V) (tm:Tm):Operand→V:=opv G (tv tm)
def yop (cl:CL) (P:Program) (G:Nat→V) (tm:Tm) (o:Op) (zm:Zm) (nx:Nat) (K:KT):Prop :=
  match o with
  | .call ⟨.value f,args,_⟩=>cl (ev G tm f) (args.toList.map (ev G tm)) zm nx K
  | o=>rsK o (yop1 P o (ev G tm) (gm zm) nx) zm nx K
abbrev K3:=Exit→Tm→Zm→Nat→Prop
abbrev RUN:=Code→Tm→Zm→Nat→K3→Prop
def putD (d:Option Tmp) (v:V) (tm:Tm) (f:Tm→Prop):Prop:=@Option.rec Tmp (fun _=>Prop) (f tm) (fun d=>forceV v fun v=>setTK v (enc d) tm f) d
def two (b:Bool) (t:Nat) (tm:Tm) (f:Bool→Tm→Prop):Prop:=alt b (setTK (.bool true) (enc t) tm (f true)) (setTK (.bool false) (enc t) tm (f false))
def grdV (v:V) (want:Bool) (d:Nat) (tm:Tm) (y n:Tm→Prop):Prop:=match v with
  | .bool b=>two b d tm fun b tm=>@Bool.rec (fun _=>Prop) (@Bool.rec (fun _=>Prop) (y tm) (n tm) b) (@Bool.rec (fun _=>Prop) (n tm) (y tm) b) want
  | .tup .nl=>n tm
  | _=>(BadN 1)
def condK (G:Nat→V) (tm:Tm) (c:Operand) (f:Bool→Tm→Prop):Prop:=match c with
  | .tmp t=>match tv tm t with
    | .bool b=>two b t tm f
    | _=>(BadN 2)
  | c=>match ev G tm c with
    | .bool b=>alt b (f true tm) (f false tm)
    | _=>(BadN 3)
def dstAt (ops:List Oper) (j:Nat):Option Tmp:=(ops[j]?).bind (·.dst)
def grdK (ops:List Oper) (g:Option (Nat×Bool)) (tm:Tm) (y n:Tm→Prop):Prop:=match g with
  | none=>y tm
  | some (j,want)=>match dstAt ops j with
    | none=>(BadN 4)
    | some d=>grdV (tv tm d) want d tm y n
def ropO (cl:CL) (P:Program) (G:Nat→V) (ops:List Oper) (o:Oper) (tm:Tm) (zm:Zm) (nx:Nat) (K:Tm→Zm→Nat→Prop):Prop :=
  grdK ops o.guard tm (fun tm=>yop cl P G tm o.op zm nx fun v zm nx _ _=>putD o.dst v tm fun tm=>K tm zm nx) (fun tm=>putD o.dst (.tup .nl) tm fun tm=>K tm zm nx)
def rops (cl:CL) (P:Program) (G:Nat→V) (ops l:List Oper):(tm:Tm)→(zm:Zm)→Nat→(Tm→Zm→Nat→Prop)→Prop :=
  @List.rec Oper (fun _=>Tm→Zm→Nat→(Tm→Zm→Nat→Prop)→Prop) (fun tm zm nx K=>K tm zm nx) (fun o _ ih tm zm nx K=>ropO cl P G ops o tm zm nx fun tm zm nx=>ih tm zm nx K) l
def rvO (P:Program) (tm:Tm) (zm:Zm) (r:ResultVar):Option V:=match r with
  | .tmp t=>some (tv tm t)
  | .cell a t=>match tshape P t,P.underlying t with
    | some s,some _=>match tv tm a with
      | .ptr id p s'=>match gm zm id with
        | some blk=>if blk.alive&&s'.beq s then some (blk.v.path p) else none
        | none=>none
      | _=>none
    | _,_=>none
def rvL (P:Program) (tm:Tm) (zm:Zm):List ResultVar→Option V
  | []=>some .nl
  | r::l=>match rvO P tm zm r,rvL P tm zm l with
    | some v,some w=>some (.cons v w)
    | _,_=>none
def rvA (P:Program) (tm:Tm) (zm:Zm) (l:List ResultVar):Option V:=match l with
  | [r]=>rvO P tm zm r
  | l=>(rvL P tm zm l).map .tup
def someK (v:Option V) (K:V→Prop):Prop:=match v with
  | some v=>K v
  | none=>(BadN 5)
def retK (P:Program) (rs:List ResultVar) (K:V→Zm→Nat→Prop) (e:Exit) (tm:Tm) (zm:Zm) (nx:Nat):Prop:=match e with
  | .normal=>someK (rvA P tm zm rs) fun v=>K v zm nx
  | .ret=>someK (rvA P tm zm rs) fun v=>K v zm nx
  | _=>(BadN 6)
def bindK (l:List V):Nat→Tm→(Tm→Prop)→Prop:=@List.rec V (fun _=>Nat→Tm→(Tm→Prop)→Prop) (fun _ t K=>K t) (fun x _ ih i t K=>setTK x (enc i) t fun t=>ih (Nat.succ i) t K) l
abbrev CTab:=FuncId→Option CSpec
def callB (run:RUN) (P:Program) (fid:FuncId) (l:List V) (zm:Zm) (nx:Nat) (K:V→Zm→Nat→Prop):Prop :=
  match P.funcs[fid]? with
  | some fn=>match fn.body with
    | some c=>bindK l 0 .e fun tm=>run c tm zm nx (retK P fn.results.toList K)
    | none=>(BadN 7)
  | none=>(BadN 8)
def seqC (c:CSpec) (zm:Zm) (nx:Nat) (args:V) (K:KT):Prop :=
  @Bool.rec (fun _=>Prop) (cnd (noId args&&c.pre (unL args)) (K (borrow (c.res (unL args))) zm nx [] [])) (cnd (c.pre (unL (frz (gm zm) 12 args))) (K (c.res (unL (frz (gm zm) 12 args))) zm nx [] [])) c.fresh
def lendR (c:CSpec) (l:V):V:=@Bool.rec (fun _=>V) (borrow (c.res (unL l))) (c.res (unL l)) c.fresh
def isoC (c:CSpec) (zm:Zm) (nx:Nat) (args:V) (K:KT):Prop:=match resM (gm zm) args with
  | some (p,l,rd)=>cnd ((c.fresh||rd.isEmpty)&&(p&&c.pre (unL l))) (K (lendR c l) zm nx [] rd)
  | none=>(BadN 9)
def callY (con:CSpec→Zm→Nat→V→KT→Prop) (run:RUN) (P:Program) (ct:CTab) (zr:Zm) (f:V) (l:List V) (zm:Zm) (nx:Nat) (K:KT):Prop:=match f with
  | .fn fid caps=>match ct fid with
    | some c=>cnd (Nat.blt fid 1073741824) (con c zm nx (appL l caps) K)
    | none=>cnd (Nat.blt fid 1073741824) (callB run P fid (l++unL caps) zr nx fun v zm nx=>K v zm nx [] [])
  | _=>(BadN 10)
def seqCL (run:RUN) (P:Program) (ct:CTab):CL:=fun f l zm nx K=>callY seqC run P ct zm f l zm nx K
def isoCL (run:RUN) (P:Program) (ct:CTab):CL:=fun f l zm nx K=>callY isoC run P ct .e f l zm nx fun v z nx _ rd=>K v zm nx [] rd
def seqK (run:RUN) (b:Code) (K:K3) (e:Exit):Tm→Zm→Nat→Prop:=match e with
  | .normal=>fun tm zm nx=>run b tm zm nx K
  | e=>K e
def blockK (id:Nat) (K:K3) (e:Exit):Tm→Zm→Nat→Prop:=match e with
  | .exit i=>@Bool.rec (fun _=>Tm→Zm→Nat→Prop) (K (.exit i)) (K .normal) (Nat.beq i id)
  | e=>K e
def scopeK (K:K3) (e:Exit):Tm→Zm→Nat→Prop:=match e with
  | .goto _=>fun _ _ _=>(BadN 11)
  | e=>K e
inductive ZTE where
  | mk (o:Oper) (lo hi:Nat) (up rd:List Nat)
def ZTE.o:ZTE→Oper | .mk o _ _ _ _=>o
def ZTE.lo:ZTE→Nat | .mk _ l _ _ _=>l
def ZTE.hi:ZTE→Nat | .mk _ _ h _ _=>h
def ZTE.up:ZTE→List Nat | .mk _ _ _ u _=>u
def ZTE.rd:ZTE→List Nat | .mk _ _ _ _ r=>r
def inNew (te:ZTE) (id:Nat):Bool:=Nat.ble te.lo id&&Nat.ble (Nat.succ id) te.hi
def zin (te:ZTE) (id:Nat):Bool:=te.up.any (fun j=>Nat.beq j id)||inNew te id
def zrd (te:ZTE) (id:Nat):Bool:=te.rd.any fun j=>Nat.beq j id
def zclashM (te te':ZTE):Bool :=
  te'.up.any (fun id=>zin te id||zrd te id)||te'.rd.any (zin te)||te.up.any (inNew te')||te.rd.any (inNew te')||(Nat.ble (Nat.succ te.lo) te'.hi&&Nat.ble (Nat.succ te'.lo) te.hi)
def edgeO (o:Oper) (k:Nat):Bool:=o.after.any fun e=>Region.binds .any e&&e.on==k
def clashO (o o':Oper) (ops:Array Oper):Bool:=clash ⟨o,skipE,0,false⟩ ⟨o',skipE,0,false⟩ ops
def drawZ (ops:Array Oper):List ZTE→Bool
  | []=>true
  | te::r=>drawZ ops r&&(te.o.after.all fun e=>!(Region.binds .any e)||decide (e.on < r.length))&&against te r
where against (te:ZTE):List ZTE→Bool
  | []=>true
  | te'::r'=>(edgeO te.o r'.length||!(clashO te.o te'.o ops||zclashM te te'))&&against te r'
def rdrO (cl:CL) (P:Program) (G:Nat→V) (ops:List Oper) (o:Oper) (tm:Tm) (zm:Zm) (nx:Nat) (K:Tm→Zm→Nat→ZTE→Prop):Prop :=
  grdK ops o.guard tm (fun tm=>yop cl P G tm o.op zm nx fun v zm nx' up rd=>putD o.dst v tm fun tm=>K tm zm nx' (.mk o nx nx' up rd))
    (fun tm=>putD o.dst (.tup .nl) tm fun tm=>K tm zm nx (.mk o nx nx [] []))
def rdraw (cl:CL) (P:Program) (G:Nat→V) (ops l:List Oper):(tm:Tm)→(zm:Zm)→Nat→List ZTE→(Tm→Zm→Nat→List ZTE→Prop)→Prop :=
  @List.rec Oper (fun _=>Tm→Zm→Nat→List ZTE→(Tm→Zm→Nat→List ZTE→Prop)→Prop) (fun tm zm nx tr K=>K tm zm nx tr) (fun o _ ih tm zm nx tr K=>rdrO cl P G ops o tm zm nx fun tm zm nx te=>ih tm zm nx (te::tr) K) l
def regK (run:RUN) (P:Program) (G:Nat→V) (ct:CTab) (ops:List Oper) (tm:Tm) (zm:Zm) (nx:Nat) (K:K3):Prop:=rops (seqCL run P ct) P G ops ops tm zm nx (K .normal)
def drwK (run:RUN) (P:Program) (G:Nat→V) (ct:CTab) (ops:Array Oper) (tm:Tm) (zm:Zm) (nx:Nat) (K:K3):Prop :=
  rdraw (isoCL run P ct) P G ops.toList ops.toList tm zm nx [] fun tm zm nx tr=>cnd (drawZ ops tr) (K .normal tm zm nx)
def step (P:Program) (G:Nat→V) (ct:CTab) (u:Bool) (run:RUN) (c:Code) (tm:Tm) (zm:Zm) (nx:Nat) (K:K3):Prop:=match c with
  | .skip=>K .normal tm zm nx
  | .label _=>K .normal tm zm nx
  | .region _ ops draw=>@Bool.rec (fun _=>Prop) (regK run P G ct ops.toList tm zm nx K) (drwK run P G ct ops tm zm nx K) draw
  | .seq a b=>run a tm zm nx (seqK run b K)
  | .cond c x y=>condK G tm c fun b tm=>@Bool.rec (fun _=>Prop) (run y tm zm nx K) (run x tm zm nx K) b
  | .block id b=>run b tm zm nx (blockK id K)
  | .loop b=>@Bool.rec (fun _=>Prop) (BadN 12) (run b tm zm nx (seqK run (.loop b) K)) u
  | .exit i=>K (.exit i) tm zm nx
  | .scope b=>run b tm zm nx (scopeK K)
  | .ret=>K .ret tm zm nx
  | _=>(BadN 13)
def run (P:Program) (G:Nat→V) (ct:CTab) (u:Bool) (fuel:Nat):RUN :=
  @Nat.rec (fun _=>RUN) (fun _ _ _ _ _=>(BadN 14)) (fun _ run c tm zm nx K=>step P G ct u run c tm zm nx K) fuel
end
end Go.Y
namespace Go.Y
open Go.Ab Go.RowKit
noncomputable section
variable [Gl]
omit [Gl] in
theorem R.mapL {C C':Ctx}{g:V→V}(hgo:∀ b,C.ok true b→C'.ok true b) (hgw:∀ b,C.ok true b→C'.w.heap[b]?=C.w.heap[b]?) (hg:∀ v,(∀ a b,v≠.cons a b)→(∀ n f,v≠.arr n f)→(∀ f c,v≠.fn f c)→(∀ l,v≠.tup l)→∀ m,R C v m→R C' (g v) m) (v:V):∀ {m:Ab.M},R C v m→R C' (Y.mapL g v) m:=by
  induction v with
  | cons x t ih1 ih2 =>
    intro m h
    cases m with
    | cel s g off=>obtain⟨a,b,h1,h2,h3⟩:=h; exact⟨a,b,h1,ih1 h2,ih2 h3⟩
    | val v=>obtain⟨cs,a,b,h1,h2,h3,h4⟩:=h; exact⟨cs,a,b,h1,h2,ih1 h3,ih2 h4⟩
    | list l=>obtain⟨y,ys,h1,h2,h3⟩:=h; exact⟨y,ys,h1,ih1 h2,ih2 h3⟩
  | arr n f ih =>
    intro m h
    cases m with
    | cel s g off=>obtain⟨e,h1,h2⟩:=h; exact⟨e,h1,fun i hi=>ih i (h2 i hi)⟩
    | val v=>obtain⟨cs,e,h1,h2,h3⟩:=h; exact⟨cs,e,h1,h2,fun i hi=>ih i (h3 i hi)⟩
    | list l=>exact h
  | fn f c ih=>intro m h; obtain⟨cs,h1,h2,h3⟩:=h; exact⟨cs,by rw[cs.vw_same h3 hgw]; exact h1,ih h2,h3.keep hgo hgw⟩
  | tup l ih =>
    intro m h
    cases m with
    | val v=>obtain⟨cs,h1,h2⟩:=h; exact⟨cs,h1,ih h2⟩
    | cel=>exact h
    | list=>exact h
  | _=>intro m h; exact hg _ (by intros; intro e; cases e) (by intros; intro e; cases e) (by intros; intro e; cases e) (by intros; intro e; cases e) _ h
omit [Gl] in
theorem unk_of_leaf {C C':Ctx}{v:V}{m:Ab.M}(hv:∀ l,m=.list l→False) (h:(∃ x:Value,x.oneCell'=true∧m.leaf x)):R C' .unk m:=by
  obtain⟨x,h1,h2⟩:=h
  cases m with
  | cel s g off=>obtain⟨rfl,h3⟩:=h2; exact⟨rfl,x,h3,h1⟩
  | val v=>trivial
  | list l=>exact (hv l rfl).elim
omit [Gl] in
theorem leaf_list {x:Value}{m:Ab.M}(h:m.leaf x):∀ l,m=.list l→False:=by intro l e; subst e; exact h
omit [Gl] in
theorem name_leaf {C:Ctx}{v:V}{m:Ab.M}(h:R C v m) (hv:(∃ id p s,v=.ptr id p s)∨(∃ id e n,v=.row id e n)∨(∃ id p e off len cap,v=.sl id p e off len cap)):∃ x:Value,x.oneCell'=true∧m.leaf x:=by
  rcases hv with ⟨id,p,s,rfl⟩ | ⟨id,e,n,rfl⟩ | ⟨id,p,e,off,len,cap,rfl⟩
  · obtain⟨_,b,off,_,_,h3⟩:=h; exact⟨_,rfl,h3⟩
  · obtain⟨_,⟨a,c,h1⟩,_,h3⟩:=h; exact⟨_,by rw[h1]; rfl,h3⟩
  · obtain⟨_,ad,c,o,n,h3,_⟩:=h; exact⟨_,rfl,h3⟩
omit [Gl] in
theorem R.unk_name {C C':Ctx}{v:V}{m:Ab.M}(h:R C v m) (hv:(∃ id p s,v=.ptr id p s)∨(∃ id e n,v=.row id e n)∨(∃ id p e off len cap,v=.sl id p e off len cap)):R C' .unk m:=by
  obtain⟨x,h1,h2⟩:=name_leaf h hv
  exact unk_of_leaf (C:=C) (v:=v) (leaf_list h2) ⟨x,h1,h2⟩
omit [Gl] in
theorem R.unk_yld {C C':Ctx}{id:Nat}{m:Ab.M}(h:R C (.yld id) m):R C' .unk m:=by
  obtain⟨_,h1,h2⟩:=h
  exact unk_of_leaf (C:=C) (v:=.yld id) (leaf_list h2) ⟨_,hndl_one h1,h2⟩
omit [Gl] in
theorem capIs_eq {cap:Option Nat}{len:Nat}(h:capIs cap len=true):cap=some len:=by
  unfold capIs at h
  split at h
  · rw[Nat.eq_of_beq_eq_true h]
  · cases h
section
variable {B:Nat}{C:Ctx}{M:Mem}
theorem R.row_ro (hs:SR B C M) {id n:Nat}{e:Shape}{blk:Blk}{n1:Nat}{f:Nat→V}{g:V→V}{md:Ab.M}(hM:M id=some blk) (ha:blk.alive=true) (hv:blk.v=.arr n1 f)
    (hg:∀ i,i < n→∀ md,R C (f i) md→R (C.opened B) (g (f i)) md) (hr:R C (.row id e n) md):R (C.opened B) (.ro false false e n fun i=>g (f i)) md:=by
  obtain⟨hal,⟨a,c,h1⟩,h2,h3⟩:=hr
  have hbr:=hs.mem id blk hM
  unfold BR at hbr; unfold Blk.alive at ha
  cases hkd:blk.k<;>simp only[hkd] at hbr ha
  · obtain⟨g,cur,e',h4,_⟩:=hbr; rw[h1] at h4; cases h4
  · obtain⟨n2,s2,cells,h4,h5,h6,h7⟩:=hbr
    rw[h4,h5] at h2
    simp only[Shape.arr.injEq] at h2
    obtain⟨rfl,rfl⟩:=h2
    refine⟨a,c,by rw[←h1]; exact h3,?_,(by intro hc; cases hc),?_⟩
    · rcases h6.2 with ⟨h8,h9⟩ | ⟨g,cap,cur,hv',hg,hh,hnc,_⟩
      · rw[h1] at h8; cases h8; omega
      · rw[h1] at hv'; cases hv'; exact hnc
    · rcases h6.2 with ⟨h8,h9⟩ | ⟨q,cap,cur,hv',hq,hh,hnc,_,hcs,htake⟩
      · exact .inl h9
      · right
        rw[h1] at hv'
        simp only[Value.slice.injEq] at hv'
        obtain⟨rfl,_,rfl⟩:=hv'
        refine⟨q,0,rfl,.inr ⟨hq,(Array.getElem?_eq_some_iff.1 hh).1⟩,fun i hi=>?_⟩
        have hb':blk? (C.sv id)=some q:=by rw[h1]; rfl
        have hpa:Shape.path [.idx i] (C.shp id)=some (0 + i * s2.size,s2):=by rw[h4,h5]; simp [Shape.path,Shape.step,hi]
        obtain⟨h10,_⟩:=BR.at (hs.mem id blk hM) (by unfold Blk.alive; rw[hkd]) hb' hpa
        rw[hv] at h10
        have h11:R C (f i) (.cel s2 (cg C.w q) (0 + i * s2.size)):=by simpa [V.path,V.step] using h10
        exact hg i hi _ h11
  · simp at ha
  · simp at ha
  · simp at ha
theorem R.sl_ro (hs:SR B C M) {id off len:Nat}{p:List Step}{cap:Option Nat}{e:Shape}{blk:Blk}{n1:Nat}{f:Nat→V}{g:V→V}{md:Ab.M}(hM:M id=some blk) (ha:blk.alive=true) (hv:blk.v.path p=.arr n1 f)
    (hg:∀ i,i < len→∀ md,R C (f (off + i)) md→R (C.opened B) (g (f (off + i))) md) (hr:R C (.sl id p e off len cap) md):R (C.opened B) (.ro false (capIs cap len) e len fun i=>g (f (off + i))) md:=by
  obtain⟨hal,ad,c,o1,n2,h3,h4,h5,h2,h8,h6⟩:=hr
  refine⟨ad,c,h3,h4,(fun hc=>h5 _ (capIs_eq hc)),h6.imp (fun h=>by omega) ?_⟩
  rintro⟨b,h1,h6⟩
  obtain⟨h7,_⟩:=BR.at (hs.mem id blk hM) ha h1 h2
  rw[hv] at h7
  obtain⟨e',q1,h9⟩:=h7
  simp only[Shape.arr.injEq] at q1
  obtain⟨rfl,rfl⟩:=q1
  refine⟨b,o1 + off * e.size,h6,.inr (hs.lt hM (Blk.lv ha) (blkL_of h1)),fun i hi=>?_⟩
  have h10:R C (f (off + i)) (.cel e (cg C.w b) (o1 + off * e.size + i * e.size)):=by rw[Nat.add_assoc,←Nat.add_mul]; exact h9 (off + i) (by omega)
  exact hg i hi _ h10
theorem R.ptr_ref (hs:SR B C M) {id:Nat}{p:List Step}{s:Shape}{blk:Blk}{g:V→V}{md:Ab.M}(hM:M id=some blk) (ha:blk.alive=true)
    (hg:∀ md,R C (blk.v.path p) md→R (C.opened B) (g (blk.v.path p)) md) (hr:R C (.ptr id p s) md):R (C.opened B) (.ref false s (g (blk.v.path p))) md:=by
  obtain⟨hal,b,off,h1,h2,h3⟩:=hr
  obtain⟨h7,_⟩:=BR.at (hs.mem id blk hM) ha h1 h2
  have hlt:=hs.lt hM (Blk.lv ha) (blkL_of h1)
  exact⟨b,off,h3,.inr hlt,hg _ h7⟩
theorem R.leafZ (hs:SR B C M) {m:Mem}(hm:Sub m M) {g:V→V}(hg:∀ v md,R C v md→R (C.opened B) (g v) md) (v:V) (h1:∀ a b,v≠.cons a b) (h2:∀ n f,v≠.arr n f) (h3:∀ f c,v≠.fn f c) (h4:∀ l,v≠.tup l) (md:Ab.M) (hr:R C v md):R (C.opened B) (Y.leafZ m g v) md:=by
  cases v with
  | ptr id p s =>
    simp only[Y.leafZ]
    cases hb:m id with
    | none=>exact R.unk_name hr (.inl ⟨_,_,_,rfl⟩)
    | some blk =>
      simp only
      split
      · rename_i ha; exact R.ptr_ref hs (hm _ _ hb) ha (fun md h=>hg _ md h) hr
      · exact R.unk_name hr (.inl ⟨_,_,_,rfl⟩)
  | row id e n =>
    simp only[Y.leafZ]
    cases hb:m id with
    | none=>exact R.unk_name hr (.inr (.inl ⟨_,_,_,rfl⟩))
    | some blk =>
      simp only
      split
      · rename_i ha
        split
        · rename_i n1 f hv; exact R.row_ro hs (hm _ _ hb) ha hv (fun i _ md h=>hg _ md h) hr
        · exact R.unk_name hr (.inr (.inl ⟨_,_,_,rfl⟩))
      · exact R.unk_name hr (.inr (.inl ⟨_,_,_,rfl⟩))
  | sl id p e off len cap =>
    simp only[Y.leafZ]
    cases hb:m id with
    | none=>exact R.unk_name hr (.inr (.inr ⟨_,_,_,_,_,_,rfl⟩))
    | some blk =>
      simp only
      split
      · rename_i ha
        split
        · rename_i n1 f hv; exact R.sl_ro hs (hm _ _ hb) ha hv (fun i _ md h=>hg _ md h) hr
        · exact R.unk_name hr (.inr (.inr ⟨_,_,_,_,_,_,rfl⟩))
      · exact R.unk_name hr (.inr (.inr ⟨_,_,_,_,_,_,rfl⟩))
  | cons a b=>exact absurd rfl (h1 _ _)
  | arr n f=>exact absurd rfl (h2 _ _)
  | fn f c=>exact absurd rfl (h3 _ _)
  | tup l=>exact absurd rfl (h4 _)
  | yld id=>exact R.unk_yld hr
  | _=>exact R.keep (Keep.opened C B) _ _ (R.pure_of _ rfl hr)
omit [Gl] in
theorem R.cutL (v:V) (h1:∀ a b,v≠.cons a b) (h2:∀ n f,v≠.arr n f) (h3:∀ f c,v≠.fn f c) (h4:∀ l,v≠.tup l) (md:Ab.M) (hr:R C v md):R (C.opened B) (Y.cutL v) md:=by
  cases v with
  | ptr id p s=>exact R.unk_name hr (.inl ⟨_,_,_,rfl⟩)
  | row id e n=>exact R.unk_name hr (.inr (.inl ⟨_,_,_,rfl⟩))
  | sl id p e off len cap=>exact R.unk_name hr (.inr (.inr ⟨_,_,_,_,_,_,rfl⟩))
  | cons a b=>exact absurd rfl (h1 _ _)
  | arr n f=>exact absurd rfl (h2 _ _)
  | fn f c=>exact absurd rfl (h3 _ _)
  | tup l=>exact absurd rfl (h4 _)
  | yld id=>exact R.unk_yld hr
  | _=>exact R.keep (Keep.opened C B) _ _ (R.pure_of _ rfl hr)
theorem R.frz (hs:SR B C M) {m:Mem}(hm:Sub m M):∀(k:Nat) (v:V) (md:Ab.M),R C v md→R (C.opened B) (Y.frz m k v) md
  | 0,v,md,h=>R.mapL (g:=Y.cutL) (C:=C) (C':=C.opened B) (fun b hb=>Or.inl hb) (fun _ _=>rfl) (fun v h1 h2 h3 h4 md hr=>R.cutL v h1 h2 h3 h4 md hr) v h
  | k + 1,v,md,h=>R.mapL (g:=Y.leafZ m (Y.frz m k)) (C:=C) (C':=C.opened B) (fun b hb=>Or.inl hb) (fun _ _=>rfl) (fun v h1 h2 h3 h4 md hr=>R.leafZ hs hm (fun v md hr=>R.frz hs hm k v md hr) v h1 h2 h3 h4 md hr) v h
theorem R.resM (hs:SR B C M) {m:Mem}(v:V):∀ {p:Bool}{v':V}{rd:List Nat}{md:Ab.M},Y.resM m v=some (p,v',rd)→p=true→(∀ id∈rd,M id=m id)→R C v md→R (C.opened B) v' md:=by
  have pure:∀ {v:V}{p:Bool}{v':V}{rd:List Nat}{md:Ab.M},(if noId v then some (true,v,([]:List Nat)) else none)=some (p,v',rd)→R C v md→R (C.opened B) v' md:=by
    intro v p v' rd md h hr
    split at h
    · rename_i hn
      simp only[Option.some.injEq,Prod.mk.injEq] at h
      obtain⟨_,rfl,_⟩:=h
      exact R.keep (Keep.opened C B) _ _ (R.pure_of v hn hr)
    · cases h
  have pg:∀ {f:Nat→V}{n:Nat}{o:Nat},(∀ i,i < n→noId (f (o + i))=true)→∀ i,i < n→∀ md,R C (f (o + i)) md→R (C.opened B) (id (f (o + i))) md:=fun hp i hi md h=>R.keep (Keep.opened C B) _ _ (R.pure_of _ (hp i hi) h)
  induction v with
  | row id e n =>
    intro p v' rd md h hp hrd hr
    simp only[Y.resM] at h
    split at h
    · rename_i blk hb
      split at h
      · rename_i ha
        split at h
        · rename_i n1 f hv
          simp only[Option.some.injEq,Prod.mk.injEq] at h
          obtain⟨rfl,rfl,rfl⟩:=h
          exact R.row_ro (g:=fun v=>v) hs (by rw[hrd id (by simp)]; exact hb) ha hv (fun i hi md h=>R.keep (Keep.opened C B) _ _ (R.pure_of _ (List.all_eq_true.1 hp i (List.mem_range.2 hi)) h)) hr
        · cases h
      · cases h
    · cases h
  | sl id q e off len cap =>
    intro p v' rd md h hp hrd hr
    simp only[Y.resM] at h
    split at h
    · rename_i blk hb
      split at h
      · rename_i ha
        split at h
        · rename_i n1 f hv
          simp only[Option.some.injEq,Prod.mk.injEq] at h
          obtain⟨rfl,rfl,rfl⟩:=h
          exact R.sl_ro (g:=fun v=>v) hs (by rw[hrd id (by simp)]; exact hb) ha hv (fun i hi md h=>R.keep (Keep.opened C B) _ _ (R.pure_of _ (List.all_eq_true.1 hp i (List.mem_range.2 hi)) h)) hr
        · cases h
      · cases h
    · cases h
  | ptr id q s =>
    intro p v' rd md h hp hrd hr
    simp only[Y.resM] at h
    split at h
    · rename_i blk hb
      split at h
      · rename_i ha
        simp only[Bool.and_eq_true] at ha
        simp only[Option.some.injEq,Prod.mk.injEq] at h
        obtain⟨rfl,rfl,rfl⟩:=h
        exact R.ptr_ref (g:=fun v=>v) hs (by rw[hrd id (by simp)]; exact hb) ha.1 (fun md h=>R.keep (Keep.opened C B) _ _ (R.pure_of _ ha.2 h)) hr
      · cases h
    · cases h
  | cons x t ih1 ih2 =>
    intro p v' rd md h hp hrd hr
    simp only[Y.resM] at h
    split at h
    · rename_i p1 h1 r1 p2 t1 r2 e1 e2
      simp only[Option.some.injEq,Prod.mk.injEq] at h
      obtain⟨rfl,rfl,rfl⟩:=h
      rw[Bool.and_eq_true] at hp
      have hrd1:∀ id∈r1,M id=m id:=fun id hid=>hrd id (by simp [hid])
      have hrd2:∀ id∈r2,M id=m id:=fun id hid=>hrd id (by simp [hid])
      cases md with
      | cel s g off=>obtain⟨a,b,q1,q2,q3⟩:=hr; exact⟨a,b,q1,ih1 e1 hp.1 hrd1 q2,ih2 e2 hp.2 hrd2 q3⟩
      | val v=>obtain⟨cs,a,b,q1,q2,q3,q4⟩:=hr; exact⟨cs,a,b,q1,q2,ih1 e1 hp.1 hrd1 q3,ih2 e2 hp.2 hrd2 q4⟩
      | list l=>obtain⟨y,ys,q1,q2,q3⟩:=hr; exact⟨y,ys,q1,ih1 e1 hp.1 hrd1 q2,ih2 e2 hp.2 hrd2 q3⟩
    · cases h
  | tup l ih =>
    intro p v' rd md h hp hrd hr
    simp only[Y.resM] at h
    split at h
    · rename_i p1 l1 r1 e1
      simp only[Option.some.injEq,Prod.mk.injEq] at h
      obtain⟨rfl,rfl,rfl⟩:=h
      cases md with
      | val v=>obtain⟨cs,q1,q2⟩:=hr; exact⟨cs,q1,ih e1 hp hrd q2⟩
      | cel=>exact hr.elim
      | list=>exact hr.elim
    · cases h
  | _=>intro p v' rd md h hp hrd hr; simp only[Y.resM] at h; exact pure h hr
omit [Gl] in
theorem R.resM0 {m:Mem}(v:V):∀ {p:Bool}{v':V}{rd:List Nat}{md:Ab.M},Y.resM m v=some (p,v',rd)→rd=[]→R C v md→R C.pur v' md:=by
  have pure:∀ {v:V}{p:Bool}{v':V}{rd:List Nat}{md:Ab.M},(if noId v then some (true,v,([]:List Nat)) else none)=some (p,v',rd)→R C v md→R C.pur v' md:=by
    intro v p v' rd md h hr
    split at h
    · rename_i hn
      simp only[Option.some.injEq,Prod.mk.injEq] at h
      obtain⟨_,rfl,_⟩:=h
      exact R.pure_of v hn hr
    · cases h
  induction v with
  | row id e n =>
    intro p v' rd md h hrd hr
    simp only[Y.resM] at h
    split at h
    · split at h
      · split at h
        · simp only[Option.some.injEq,Prod.mk.injEq] at h
          rw[←h.2.2] at hrd; cases hrd
        · cases h
      · cases h
    · cases h
  | sl id q e off len cap =>
    intro p v' rd md h hrd hr
    simp only[Y.resM] at h
    split at h
    · split at h
      · split at h
        · simp only[Option.some.injEq,Prod.mk.injEq] at h
          rw[←h.2.2] at hrd; cases hrd
        · cases h
      · cases h
    · cases h
  | ptr id q s =>
    intro p v' rd md h hrd hr
    simp only[Y.resM] at h
    split at h
    · split at h
      · simp only[Option.some.injEq,Prod.mk.injEq] at h
        rw[←h.2.2] at hrd; cases hrd
      · cases h
    · cases h
  | cons x t ih1 ih2 =>
    intro p v' rd md h hrd hr
    simp only[Y.resM] at h
    split at h
    · rename_i p1 h1 r1 p2 t1 r2 e1 e2
      simp only[Option.some.injEq,Prod.mk.injEq] at h
      obtain⟨rfl,rfl,rfl⟩:=h
      obtain⟨hr1,hr2⟩:=List.append_eq_nil_iff.1 hrd
      cases md with
      | cel s g off=>obtain⟨a,b,q1,q2,q3⟩:=hr; exact⟨a,b,q1,ih1 e1 hr1 q2,ih2 e2 hr2 q3⟩
      | val v=>obtain⟨cs,a,b,q1,q2,q3,q4⟩:=hr; exact⟨cs,a,b,q1,q2,ih1 e1 hr1 q3,ih2 e2 hr2 q4⟩
      | list l=>obtain⟨y,ys,q1,q2,q3⟩:=hr; exact⟨y,ys,q1,ih1 e1 hr1 q2,ih2 e2 hr2 q3⟩
    · cases h
  | tup l ih =>
    intro p v' rd md h hrd hr
    simp only[Y.resM] at h
    split at h
    · rename_i p1 l1 r1 e1
      simp only[Option.some.injEq,Prod.mk.injEq] at h
      obtain⟨rfl,rfl,rfl⟩:=h
      cases md with
      | val v=>obtain⟨cs,q1,q2⟩:=hr; exact⟨cs,q1,ih e1 hrd q2⟩
      | cel=>exact hr.elim
      | list=>exact hr.elim
    · cases h
  | _=>intro p v' rd md h hrd hr; simp only[Y.resM] at h; exact pure h hr
end
end
end Go.Y
namespace Go.Y
open Go.Ab Go.RowKit
noncomputable section
variable [Gl]
structure YR (B H:Nat) (C:Ctx) (M:Mem) (zm:Zm) (nx:Nat):Prop where
  sr:SR B C M
  sub:Sub (gm zm) M
  al:∀ id,nx≤id→id < H→¬ C.al id
structure YC (B H:Nat) (C:Ctx) (M:Mem) (zm:Zm) (nx:Nat) (C':Ctx) (M':Mem) (zm':Zm) (nx':Nat):Prop where
  kp:Kp B C C'
  al:∀ id,C'.al id→C.al id∨(nx≤id∧id < nx')
  fr:∀ id,(id < nx∨H≤id)→gm zm id=none→M' id=M id∧gm zm' id=none
omit [Gl] in
theorem YC.refl {B H:Nat}(C:Ctx) (M:Mem) (zm:Zm) (nx:Nat):YC B H C M zm nx C M zm nx:=⟨Kp.refl B C,fun _ h=>.inl h,fun _ _ h=>⟨rfl,h⟩⟩
omit [Gl] in
theorem YC.trans {B H:Nat}{C C' C'':Ctx}{M M' M'':Mem}{zm zm' zm'':Zm}{nx nx' nx'':Nat}(h:YC B H C M zm nx C' M' zm' nx') (k:YC B H C' M' zm' nx' C'' M'' zm'' nx'') (h1:nx≤nx') (h2:nx'≤nx''):YC B H C M zm nx C'' M'' zm'' nx'' :=
  ⟨h.kp.trans k.kp,fun id hid=>by
    rcases k.al id hid with h3 | h3
    · rcases h.al id h3 with h4 | h4
      · exact .inl h4
      · exact .inr ⟨h4.1,by omega⟩
    · exact .inr ⟨by omega,h3.2⟩,fun id hid hn=>by
    obtain⟨h3,h4⟩:=h.fr id hid hn
    obtain⟨h5,h6⟩:=k.fr id (by omega) h4
    exact⟨h5.trans h3,h6⟩⟩
def KB (zm:Zm) (nx:Nat):Prop:=∀ id,nx≤id→gm zm id=none
omit [Gl] in
theorem gm_e (id:Nat):gm .e id=none:=get_e none _
omit [Gl] in
theorem gm_set {zm:Zm}{x:Option Blk}{i id:Nat}:gm (set x (enc i) zm) id=if id=i then x else gm zm id:=get_set_n _ _ _ _ _
def upZ (l:List (Nat×Blk)) (zm:Zm):Zm:=l.foldr (fun x zm=>set (some x.2) (enc x.1) zm) zm
omit [Gl] in
theorem upK_eq:∀(l:List (Nat×Blk)) (zm:Zm) (K:Zm→Prop),upK l zm K=K (upZ l zm)
  | [],zm,K=>rfl
  | x::l,zm,K=>by
    show upK l zm (fun zm=>forceB x.2 fun b=>setTK b (enc x.1) zm K)=_
    rw[upK_eq l,forceB_eq,setTK_eq]; rfl
def nwZ:List Blk→Zm→Nat→Zm
  | [],zm,_=>zm
  | b::l,zm,nx=>nwZ l (set (some b) (enc nx) zm) (nx + 1)
omit [Gl] in
theorem nwK_eq:∀(l:List Blk) (zm:Zm) (nx:Nat) (K:Zm→Nat→Prop),nwK l zm nx K=K (nwZ l zm nx) (nx + l.length)
  | [],zm,nx,K=>rfl
  | b::l,zm,nx,K=>by
    show forceB b (fun b=>setTK b (enc nx) zm (fun zm=>forceN (Nat.succ nx) fun nx=>nwK l zm nx K))=_
    rw[forceB_eq,setTK_eq,forceN_eq,nwK_eq l]
    show K (nwZ l _ (nx + 1)) (nx + 1 + l.length)=K (nwZ l _ (nx + 1)) (nx + (l.length + 1))
    rw[Nat.add_assoc,Nat.add_comm 1]
omit [Gl] in
theorem apK_eq (e:Eff) (zm:Zm) (nx:Nat) (K:KT):apK e zm nx K=K e.v (nwZ e.nw (upZ e.up zm) nx) (nx + e.nw.length) (e.up.map (·.1)) e.rd:=by
  unfold apK; rw[upK_eq,nwK_eq]
omit [Gl] in
theorem rsK_inv {o:Op}{r:RS}{zm:Zm}{nx:Nat}{K:KT}(h:rsK o r zm nx K):∃ e,r.is e∧K e.v (nwZ e.nw (upZ e.up zm) nx) (nx + e.nw.length) (e.up.map (·.1)) e.rd:=by
  cases r with
  | bad=>exact h.elim
  | ok e=>have h:apK e zm nx K:=h; rw[apK_eq] at h; exact⟨e,rfl,h⟩
  | tst c e =>
    obtain⟨h1,h⟩:=cnd_iff.1 (show cnd c (apK e zm nx K) from h)
    rw[apK_eq] at h; exact⟨e,⟨h1,rfl⟩,h⟩
  | prv p e=>obtain⟨h1,h⟩:=(show p∧apK e zm nx K from h); rw[apK_eq] at h; exact⟨e,⟨h1,rfl⟩,h⟩
omit [Gl] in
theorem gm_upZ (zm:Zm) (id:Nat):∀(l:List (Nat×Blk)),gm (upZ l zm) id=(match l.lookup id with | some b=>some b | none=>gm zm id)
  | []=>rfl
  | x::l=>by
    show gm (set (some x.2) (enc x.1) (upZ l zm)) id=_
    rw[gm_set]
    simp only[List.lookup]
    by_cases h:id=x.1
    · subst h; simp
    · have:(id==x.1)=false:=by simpa using h
      rw[if_neg h,this,gm_upZ zm id l]
omit [Gl] in
theorem gm_nwZ (id:Nat):∀(l:List Blk) (zm:Zm) (nx:Nat),gm (nwZ l zm nx) id=if nx≤id∧id < nx + l.length then l[id - nx]? else gm zm id
  | [],zm,nx=>by rw[if_neg (by simp only[List.length_nil]; omega)]; rfl
  | b::l,zm,nx=>by
    show gm (nwZ l (set (some b) (enc nx) zm) (nx + 1)) id=_
    rw[gm_nwZ id l,gm_set]
    by_cases h1:nx + 1≤id∧id < nx + 1 + l.length
    · rw[if_pos h1,if_pos (by simp only[List.length_cons]; omega)]
      rw[show id - nx=(id - (nx + 1)) + 1 by omega]; rfl
    · rw[if_neg h1]
      by_cases h2:id=nx
      · subst h2; rw[if_pos rfl,if_pos (by simp)]; simp
      · rw[if_neg h2,if_neg (by simp only[List.length_cons]; omega)]
omit [Gl] in
theorem lookup_mem {id:Nat}{b:Blk}:∀ {l:List (Nat×Blk)},l.lookup id=some b→∃ x∈l,x.1=id
  | [],h=>by cases h
  | x::l,h=>by
    simp only[List.lookup] at h
    cases hx:id==x.1 with
    | true=>exact⟨x,by simp,(by simpa using hx:id=x.1).symm⟩
    | false =>
      rw[hx] at h
      obtain⟨y,hy,e⟩:=lookup_mem h
      exact⟨y,by simp [hy],e⟩
structure YSt (P:Program) (B:Nat) (o:Oper) (tm:Tm) (zm zm':Zm) (nx nx':Nat) (v:V) (up rd:List Nat) (e:Eff):Prop where
  val:e.v=v
  nxt:nx'=nx + e.nw.length
  ups:e.up.map (·.1)=up
  rds:e.rd=rd
  upk:∀ x∈e.up,∃ b,gm zm x.1=some b
  kn:∀ id,(id < nx∨nx'≤id)→gm zm id=none→gm zm' id=none
  sem:∀ M,Sub (gm zm) M→OpSem P B o (ev Gl.G tm) M nx e
  sub:KB zm nx→∀ M,Sub (gm zm) M→Sub (gm zm') (put M nx e)
theorem OpSem.agree {P:Program}{B:Nat}{o:Oper}{ρ:Operand→V}{m m':Mem}{n:Nat}{e:Eff}(h:OpSem P B o ρ m n e) (hr:∀ id∈e.rd,m' id=m id) (hu:∀ x∈e.up,m' x.1=m x.1):OpSem P B o ρ m' n e :=
  fun C M ρc h1 h2 h3 h4 h5=>h C M ρc h1 (fun id hid=>(h2 id hid).trans (hr id hid)) (fun x hx=>(h3 x hx).trans (hu x hx)) h4 h5
section
variable {P:Program}{B:Nat}{o:Oper}{tm:Tm}{zm:Zm}{nx:Nat}
theorem YSt.of {e:Eff}(hs:OpSem P B o (ev Gl.G tm) (gm zm) nx e) (hu:UpIn (gm zm) e) :
    YSt P B o tm zm (nwZ e.nw (upZ e.up zm) nx) nx (nx + e.nw.length) e.v (e.up.map (·.1)) e.rd e:=by
  refine⟨rfl,rfl,rfl,rfl,hu.up,fun id hid hn=>?_,fun M hM=>OpSem.agree hs (fun id hid=>?_) (fun x hx=>?_),fun hkb M hM id b hb=>?_⟩
  · rw[gm_nwZ,if_neg (by omega),gm_upZ]
    cases hl:e.up.lookup id with
    | none=>exact hn
    | some b =>
      exfalso
      obtain⟨x,hx,rfl⟩:=lookup_mem hl
      obtain⟨c,hc⟩:=hu.up x hx
      rw[hn] at hc; cases hc
  · obtain⟨b,hb⟩:=hu.rd id hid
    rw[hb,hM _ _ hb]
  · obtain⟨b,hb⟩:=hu.up x hx
    rw[hb,hM _ _ hb]
  · rw[gm_nwZ] at hb
    unfold put touch
    by_cases h1:nx≤id∧id < nx + e.nw.length
    · rw[if_pos h1] at hb ⊢
      rw[hb]
    · rw[if_neg h1] at hb ⊢
      rw[gm_upZ] at hb
      cases hl:e.up.lookup id with
      | some c=>rw[hl] at hb; exact hb
      | none=>rw[hl] at hb; exact hM _ _ hb
end
def ODoes (P:Program) (B:Nat) (o:Oper) (tm:Tm) (zm:Zm) (nx:Nat) (v:V) (zm':Zm) (nx':Nat):Prop :=
  ∀(H:Nat) (C:Ctx) (M:Mem) (ρc:Operand→Value),nx'≤H→YR B H C M zm nx→(∀ x∈o.op.operands.toList,R C (ev Gl.G tm x) (.val (ρc x))) →
    Does P (execOp ρc o) C.w fun val w'=>∃ C' M',C'.w=w'∧R C' v (.val val)∧YR B H C' M' zm' nx'∧YC B H C M zm nx C' M' zm' nx'
theorem YSt.does {P:Program}{B:Nat}{o:Oper}{tm:Tm}{zm zm':Zm}{nx nx':Nat}{v:V}{up rd:List Nat}{e:Eff}(h:YSt P B o tm zm zm' nx nx' v up rd e) (hkb:KB zm nx):ODoes P B o tm zm nx v zm' nx':=by
  intro H C M ρc hH hr ho
  have hnx:=h.nxt
  refine Does.mono ?_ (h.sem M hr.sub C M ρc hr.sr (fun _ _=>rfl) (fun _ _=>rfl) (fun i hi=>hr.al _ (by omega) (by omega)) ho)
  rintro val w' ⟨C',hw,hR,hK,hS,hal⟩
  rw[h.val] at hR
  have hal':∀ id,C'.al id→C.al id∨(nx≤id∧id < nx'):=fun id hid=>by
    rcases hal id hid with h1 | h1
    · exact .inl h1
    · exact .inr ⟨h1.1,by omega⟩
  refine⟨C',_,hw,hR,⟨hS,h.sub hkb M hr.sub,fun id h1 h2 h3=>?_⟩,⟨hK,hal',fun id hid hn=>⟨?_,h.kn id (by omega) hn⟩⟩⟩
  · rcases hal' id h3 with h4 | h4
    · exact hr.al id (by omega) h2 h4
    · omega
  · have ht:touch e nx id=none:=by
      unfold touch
      rw[if_neg (by omega)]
      cases hl:e.up.lookup id with
      | none=>rfl
      | some b =>
        exfalso
        obtain⟨x,hx,e1⟩:=lookup_mem hl
        obtain⟨b',hb'⟩:=h.upk x hx
        rw[e1,hn] at hb'; cases hb'
    simp only[put,ht]
theorem YSt.kb {P:Program}{B:Nat}{o:Oper}{tm:Tm}{zm zm':Zm}{nx nx':Nat}{v:V}{up rd:List Nat}{e:Eff}(h:YSt P B o tm zm zm' nx nx' v up rd e) (hk:KB zm nx):KB zm' nx' :=
  fun id hid=>h.kn id (.inr hid) (hk id (by have:=h.nxt; omega))
structure YT (C:Ctx) (tm:Tm) (a:Act) (N:Nat):Prop where
  tv:∀ t,R C (tv tm t) (.val (a.tmps.getD t undef))
  size:a.tmps.size=N
  defers:a.defers=[]
omit [Gl] in
theorem YT.keep {C C':Ctx}{tm:Tm}{a:Act}{N:Nat}(h:YT C tm a N) (hk:Keep C C'):YT C' tm a N:=⟨fun t=>R.keep hk _ _ (h.tv t),h.size,h.defers⟩
def putT (d:Option Tmp) (v:V) (tm:Tm):Tm:=match d with | some d=>set v (enc d) tm | none=>tm
omit [Gl] in
theorem putD_eq (d:Option Tmp) (v:V) (tm:Tm) (f:Tm→Prop):putD d v tm f=f (putT d v tm):=by
  cases d with
  | none=>rfl
  | some d=>exact (forceV_eq v fun v=>setTK v (enc d) tm f).trans (setTK_eq v (enc d) tm f)
omit [Gl] in
theorem tv_set {tm:Tm}{v:V}{t d:Nat}:tv (set v (enc d) tm) t=if t=d then v else tv tm t:=get_set_n _ _ _ _ _
omit [Gl] in
theorem YT.put {C:Ctx}{tm:Tm}{a:Act}{N:Nat}(h:YT C tm a N) {d:Option Tmp}{v:V}{val:Value}(hd:dOk N d=true) (hr:R C v (.val val)):YT C (putT d v tm) (a.put d val) N:=by
  cases d with
  | none=>exact⟨h.tv,h.size,h.defers⟩
  | some d =>
    have hd':d < N:=by simpa [dOk] using hd
    refine⟨fun t=>?_,?_,h.defers⟩
    · rw[put_getD h.size hd']
      by_cases hdt:d=t
      · subst hdt
        rw[if_pos rfl]
        simp only[putT,tv_set,if_true]; exact hr
      · rw[if_neg hdt]
        simp only[putT,tv_set,if_neg (fun e:t=d=>hdt e.symm)]; exact h.tv t
    · rw[←h.size]; simp [Act.put]
theorem YT.operand {C:Ctx}{tm:Tm}{a:Act}{N:Nat}(h:YT C tm a N) (hg:∀ g,R C (Gl.G g) (.val (.pointer (some ⟨g,0,none⟩)))) (x:Operand):R C (ev Gl.G tm x) (.val (a.eval x)):=by
  cases x with
  | tmp t=>exact h.tv t
  | const v=>exact R.ofVal C v
  | global g=>exact hg g
  | func f=>exact R.fnop f
omit [Gl] in
theorem wpOp_do {P:Program}{ops:Array Oper}{Q:Exit→Act→World→Prop}{i:Nat}{K:Act→World→Prop}{a:Act}{w:World}{o:Oper}(hop:ops[i]?=some o) (hw:Region.wanted o (yielded ops a.tmps)=true) (h:o.wp P a w K Q):wpOp P ops Q i K a w:=by
  unfold wpOp; simp only[hop]; rw[if_pos hw]; exact .inl h
omit [Gl] in
theorem wpOp_skip {P:Program}{ops:Array Oper}{Q:Exit→Act→World→Prop}{i:Nat}{K:Act→World→Prop}{a:Act}{w:World}{o:Oper}(hop:ops[i]?=some o) (hw:Region.wanted o (yielded ops a.tmps)=false) (h:K (a.put o.dst undef) w):wpOp P ops Q i K a w:=by
  unfold wpOp; simp only[hop]; rw[if_neg (by rw[hw]; simp)]; exact h
omit [Gl] in
theorem dstAt_eq (ops:Array Oper) (j:Nat):dstAt ops.toList j=(ops[j]?).bind (·.dst):=by
  unfold dstAt; rw[Array.getElem?_toList]
def Same (tm tm1:Tm):Prop:=∀ t,tv tm1 t=tv tm t
omit [Gl] in
theorem Same.refl (tm:Tm):Same tm tm:=fun _=>rfl
omit [Gl] in
theorem Same.set {tm:Tm}{d:Nat}{b:Bool}(h:tv tm d=.bool b):Same tm (set (.bool b) (enc d) tm):=fun t=>by
  rw[tv_set]; split
  · rename_i he; subst he; exact h.symm
  · rfl
omit [Gl] in
theorem YT.same {C:Ctx}{tm tm1:Tm}{a:Act}{N:Nat}(h:YT C tm a N) (hs:Same tm tm1):YT C tm1 a N:=⟨fun t=>by rw[hs t]; exact h.tv t,h.size,h.defers⟩
omit [Gl] in
theorem two_inv {b:Bool}{t:Nat}{tm:Tm}{f:Bool→Tm→Prop}(ht:tv tm t=.bool b) (h:two b t tm f):∃ tm1,Same tm tm1∧f b tm1:=by
  unfold two at h
  cases b with
  | true=>have h1:setTK (.bool true) (enc t) tm (f true):=h; rw[setTK_eq] at h1; exact⟨_,Same.set ht,h1⟩
  | false=>have h1:setTK (.bool false) (enc t) tm (f false):=h; rw[setTK_eq] at h1; exact⟨_,Same.set ht,h1⟩
omit [Gl] in
theorem grdV_inv {want:Bool}{d:Nat}{tm:Tm}{y n:Tm→Prop}(h:grdV (tv tm d) want d tm y n) :
    (tv tm d=.bool want∧∃ tm1,Same tm tm1∧y tm1)∨((tv tm d=.bool (!want)∨tv tm d=.tup .nl)∧∃ tm1,Same tm tm1∧n tm1):=by
  unfold grdV at h
  split at h
  · rename_i b hb
    obtain⟨tm1,hs,h1⟩:=two_inv hb h
    cases b<;>cases want
    · exact .inl ⟨hb,tm1,hs,h1⟩
    · exact .inr ⟨.inl hb,tm1,hs,h1⟩
    · exact .inr ⟨.inl hb,tm1,hs,h1⟩
    · exact .inl ⟨hb,tm1,hs,h1⟩
  · rename_i hb; exact .inr ⟨.inr hb,tm,Same.refl tm,h⟩
  · exact h.elim
theorem condK_inv {tm:Tm}{c:Operand}{f:Bool→Tm→Prop}(h:condK Gl.G tm c f):∃ b tm1,ev Gl.G tm c=.bool b∧Same tm tm1∧f b tm1:=by
  have key:∀ c,(match ev Gl.G tm c with | .bool b=>alt b (f true tm) (f false tm) | _=>BadN 3)→∃ b tm1,ev Gl.G tm c=.bool b∧Same tm tm1∧f b tm1:=by
    intro c h
    split at h
    · rename_i b hb
      cases b with
      | true=>exact⟨true,tm,hb,Same.refl tm,h⟩
      | false=>exact⟨false,tm,hb,Same.refl tm,h⟩
    · exact h.elim
  cases c with
  | tmp t =>
    have h1:(match tv tm t with | .bool b=>two b t tm f | _=>BadN 2):=h
    split at h1
    · rename_i b hb
      obtain⟨tm1,hs,h2⟩:=two_inv hb h1
      exact⟨b,tm1,hb,hs,h2⟩
    · exact h1.elim
  | const v=>exact key _ h
  | global g=>exact key _ h
  | func g=>exact key _ h
omit [Gl] in
theorem grdK_pure {tm:Tm}{ops:Array Oper}{o:Oper}{y n:Tm→Prop}(hg:grdK ops.toList o.guard tm y n) :
    ((∀ C a N,YT C tm a N→Region.wanted o (yielded ops a.tmps)=true)∧(∀ tmv:Nat→V,(∀ t,tmv t=tv tm t)→wants ops tmv o false)∧∃ tm1,Same tm tm1∧y tm1) ∨
    ((∀ C a N,YT C tm a N→Region.wanted o (yielded ops a.tmps)=false)∧(∀ tmv:Nat→V,(∀ t,tmv t=tv tm t)→wants ops tmv o true)∧∃ tm1,Same tm tm1∧n tm1):=by
  cases hgd:o.guard with
  | none =>
    rw[hgd] at hg
    exact .inl ⟨fun C a N _=>by simp [Region.wanted,hgd],fun tmv _=>by unfold wants; rw[hgd],tm,Same.refl tm,hg⟩
  | some jw =>
    obtain⟨j,want⟩:=jw
    rw[hgd] at hg
    unfold grdK at hg
    simp only[dstAt_eq] at hg
    cases hd:(ops[j]?).bind (·.dst) with
    | none=>rw[hd] at hg; exact hg.elim
    | some d =>
      rw[hd] at hg
      have rd:∀ {C a N} {b:Bool},YT C tm a N→tv tm d=.bool b→a.tmps[d]?=some (.bool b):=by
        intro C a N b ht hx
        have hr:=ht.tv d
        rw[hx] at hr
        have hval:a.tmps.getD d undef=.bool b:=hr
        rw[Array.getD_eq_getD_getElem?] at hval
        cases hx:a.tmps[d]? with
        | none=>rw[hx] at hval; simp [undef] at hval
        | some y=>rw[hx] at hval; simpa using hval
      rcases grdV_inv hg with ⟨hx,hy⟩ | ⟨hx,hn⟩
      · refine .inl ⟨fun C a N ht=>by simp [Region.wanted,hgd,yielded,hd,rd ht hx],fun tmv ht=>?_,hy⟩
        unfold wants; rw[hgd]
        exact⟨d,hd,.inl ⟨by rw[ht,hx],rfl⟩⟩
      · refine .inr ⟨fun C a N ht=>?_,fun tmv ht=>?_,hn⟩
        · rcases hx with hx | hx
          · cases want<;>simp [Region.wanted,hgd,yielded,hd,rd ht hx]
          · have hr:=ht.tv d
            rw[hx] at hr
            obtain⟨cs,h2,h3⟩:=hr
            have h3':cs.toList=[]:=h3
            have hval:a.tmps.getD d undef=.tuple #[]:=by rw[h2]; congr; simpa using h3'
            rw[Array.getD_eq_getD_getElem?] at hval
            cases hx:a.tmps[d]? with
            | none=>simp [Region.wanted,hgd,yielded,hd,hx]
            | some y=>rw[hx] at hval; simp only[Option.getD_some] at hval; subst hval; simp [Region.wanted,hgd,yielded,hd,hx]
        · unfold wants; rw[hgd]
          refine⟨d,hd,.inr ⟨?_,rfl⟩⟩
          rcases hx with hx | hx
          · exact .inl (by rw[ht,hx])
          · exact .inr (by rw[ht,hx])
section
variable {P:Program}{B H:Nat}{C:Ctx}{M:Mem}{tm:Tm}{zm:Zm}{nx:Nat}{a:Act}{N:Nat}
theorem rvO_s (hz:YR B H C M zm nx) (ht:YT C tm a N) {r:ResultVar}{v:V}(h:rvO P tm zm r=some v):∃ val,(rdV a r).run P C.w=.ok val C.w∧R C v (.val val):=by
  cases r with
  | tmp t=>cases h; exact⟨_,rfl,ht.tv t⟩
  | cell p t =>
    simp only[rvO] at h
    split at h
    · rename_i s d hs hd
      split at h
      · rename_i id q s' hp
        split at h
        · rename_i blk hb
          split at h
          · rename_i hc
            simp only[Bool.and_eq_true] at hc
            obtain rfl:=Shape.eq_of_beq hc.2
            cases h
            have hr:=ht.tv p
            rw[hp] at hr
            obtain⟨hal',g,off,h5,h6,h7⟩:=hr
            have h7':a.tmps.getD p undef=.pointer (some ⟨g,off,none⟩):=h7
            obtain⟨h8,_⟩:=BR.at (hz.sr.mem _ _ (hz.sub _ _ hb)) hc.1 h5 h6
            obtain⟨val,h9,h10⟩:=run_loadVar_tree hs hd h8
            exact⟨val,by simp only[rdV,h7']; simpa [asAddr] using h9,h10⟩
          · cases h
        · cases h
      · cases h
    · cases h
theorem rvL_s (hz:YR B H C M zm nx) (ht:YT C tm a N):∀ {l:List ResultVar}{v:V},rvL P tm zm l=some v→∃ xs,(l.mapM (rdV a)).run P C.w=.ok xs C.w∧R C v (.list xs)∧xs.length=l.length
  | [],v,h=>by cases h; exact⟨[],rfl,rfl,rfl⟩
  | r::l,v,h=>by
    simp only[rvL] at h
    split at h
    · rename_i v1 v2 h1 h2
      cases h
      obtain⟨x,e1,r1⟩:=rvO_s hz ht h1
      obtain⟨xs,e2,r2,hl⟩:=rvL_s hz ht h2
      refine⟨x::xs,?_,⟨x,xs,rfl,r1,r2⟩,by simp [hl]⟩
      rw[List.mapM_cons,Sem.run_bind,e1,Result.andThen_ok,Sem.run_bind,e2,Result.andThen_ok,Sem.run_pure]
    · cases h
theorem rvA_s (hz:YR B H C M zm nx) (ht:YT C tm a N) {fn:Func}{v:V}(h:rvA P tm zm fn.results.toList=some v):∃ val,(results fn a.tmps).run P C.w=.ok val C.w∧R C v (.val val):=by
  have key:∀ {w:V},rvL P tm zm fn.results.toList=some w→∃ xs:List Value,(fn.results.mapM (rdV a)).run P C.w=.ok xs.toArray C.w∧R C w (.list xs)∧xs.length=fn.results.toList.length:=by
    intro w hw
    obtain⟨xs,h1,h2,h3⟩:=rvL_s hz ht hw
    refine⟨xs,?_,h2,h3⟩
    have:fn.results=fn.results.toList.toArray:=by simp
    rw[this,List.mapM_toArray,map_eq_pure_bind,Sem.run_bind,h1]; rfl
  unfold rvA at h
  split at h
  · rename_i r hr
    obtain⟨xs,h1,h2,h3⟩:=key (w:=.cons v .nl) (by rw[hr]; simp [rvL,h])
    obtain⟨x,xs',rfl,h4,h5⟩:=h2
    rw[hr] at h3
    have h6:xs'=[]:=by simpa using h3
    subst h6
    refine⟨x,?_,h4⟩
    rw[results_rdV,Sem.run_bind,h1]; rfl
  · rename_i hne
    cases hl:rvL P tm zm fn.results.toList with
    | none=>rw[hl] at h; cases h
    | some w =>
      rw[hl] at h
      simp only[Option.map_some,Option.some.injEq] at h
      subst h
      obtain⟨xs,h1,h2,h3⟩:=key hl
      refine⟨.tuple xs.toArray,?_,xs.toArray,rfl,by simpa using h2⟩
      rw[results_rdV,Sem.run_bind,h1]
      have h4:¬ xs.toArray.size=1:=by
        intro h5
        simp only[List.size_toArray] at h5
        rw[h5] at h3
        match hm:fn.results.toList,h3 with
        | [r],_=>exact hne r hm
        | [],h3=>simp at h3
        | _::_::_,h3=>simp at h3
      rw[Result.andThen_ok,dif_neg h4,Sem.run_pure]
def bindT:List V→Nat→Tm→Tm
  | [],_,t=>t
  | x::l,i,t=>bindT l (i + 1) (set x (enc i) t)
omit [Gl] in
theorem bindK_eq:∀(l:List V) (i:Nat) (t:Tm) (K:Tm→Prop),bindK l i t K=K (bindT l i t)
  | [],i,t,K=>rfl
  | x::l,i,t,K=>by
    show setTK x (enc i) t (fun t=>bindK l (Nat.succ i) t K)=_
    rw[setTK_eq,bindK_eq l]; rfl
omit [Gl] in
theorem bindT_get:∀(l:List V) (i:Nat) (t:Tm) (q:Nat),tv (bindT l i t) q=if i≤q∧q < i + l.length then l.getD (q - i) .unk else tv t q
  | [],i,t,q=>by rw[if_neg (by simp only[List.length_nil]; omega)]; rfl
  | x::l,i,t,q=>by
    rw[show bindT (x::l) i t=bindT l (i + 1) (set x (enc i) t) from rfl,bindT_get l,tv_set]
    by_cases h1:i + 1≤q∧q < i + 1 + l.length
    · rw[if_pos h1,if_pos (by simp only[List.length_cons]; omega)]
      rw[show q - i=(q - (i + 1)) + 1 by omega]; rfl
    · rw[if_neg h1]
      by_cases h2:q=i
      · subst h2; rw[if_pos rfl,if_pos (by simp)]; simp
      · rw[if_neg h2,if_neg (by simp only[List.length_cons]; omega)]
omit [Gl] in
theorem mkL_list:∀ {l:List V}{vs:List Value},R C (mkL l) (.list vs)→l.length=vs.length∧∀ i,i < l.length→R C (l.getD i .unk) (.val (vs.getD i undef))
  | [],vs,h=>by obtain rfl:vs=[]:=h; exact⟨rfl,fun i hi=>by simp at hi⟩
  | x::l,vs,h=>by
    obtain⟨v,vs',rfl,h1,h2⟩:=h
    obtain⟨h3,h4⟩:=mkL_list (l:=l) h2
    refine⟨by simp [h3],fun i hi=>?_⟩
    cases i with
    | zero=>exact h1
    | succ i=>exact h4 i (by simpa using hi)
omit [Gl] in
theorem mkL_app:∀ {l r:List V}{vs ws:List Value},R C (mkL l) (.list vs)→R C (mkL r) (.list ws)→R C (mkL (l++r)) (.list (vs++ws))
  | [],r,vs,ws,h1,h2=>by obtain rfl:vs=[]:=h1; exact h2
  | x::l,r,vs,ws,h1,h2=>by
    obtain⟨v,vs',rfl,h3,h4⟩:=h1
    exact⟨v,vs'++ws,rfl,h3,mkL_app h4 h2⟩
omit [Gl] in
theorem YT.enter {l:List V}{vs:List Value}(h:R C (mkL l) (.list vs)) (n:Nat) :
    YT C (bindT l 0 .e) { tmps:=vs.toArray++Array.replicate (n - vs.toArray.size) undef,defers:=[] } (vs.length + (n - vs.length)):=by
  obtain⟨h1,h2⟩:=mkL_list h
  refine⟨fun t=>?_,by simp,rfl⟩
  rw[bindT_get]
  by_cases ht:t < l.length
  · rw[if_pos (by omega)]
    have h3:(vs.toArray++Array.replicate (n - vs.toArray.size) undef).getD t undef=vs.getD t undef:=by
      rw[Array.getD_eq_getD_getElem?,Array.getElem?_append_left (by simpa [←h1] using ht)]
      simp
    rw[h3]
    exact h2 t ht
  · rw[if_neg (by omega)]
    show R C (get .unk (enc t) .e) _
    rw[get_e]; trivial
end
end
end Go.Y
