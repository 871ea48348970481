/- StoresOpen: from the run to the card. No condition. -/
import Derived.Test.YtfpmealbbibhpaaGreatDoorSO13
import Derived.Test.YtfpmealbbibhpaaGreatDoorK19
import Derived.Stop.LaidErr
import Derived.Test.YtfpmealbbibhpaaGreatDoorSO15J
import Derived.Test.YtfpmealbbibhpaaGreatDoorChecked
import Derived.Test.YtfpmealbbibhpaaGreatDoorRows
import Derived.Test.YtfpmealbbibhpaaGreatDoorTie
import Derived.Test.YtfpmealbbibhpaaGreatDoorCards
import Derived.LaidMore
import Derived.OpenShut
import Derived.Stop.Joined
import Derived.SevenTiedAt
set_option linter.unusedVariables false
namespace Go.K
open Go.Ab Go.Y Go.Proofs Go.ChangeShapes Go.WideShapes Go.ChangeAt Go.WideMaps Go.WideElems Go.RowKit
open Go.Proofs.YtfpmealbbibhpaaGreatDoor
noncomputable section
attribute [local irreducible] krun callR
def litsOf {H:Type}:DataW H→List Int
  | .agg l=>l.map fun x=>match x with
    | .lit (.int _ n)=>n
    | _=>0
  | _=>[]
def nmL (i:Nat):String:=(Rows.storesOpenRow.laid.getD i (Rows.storesOpenRow.func,.nil)).1
theorem gSz:Tryz.prog.globalNamed (nmL 3)=some 1:=by kernel_rfl
theorem gIn:Tryz.prog.globalNamed (nmL 0)=some 3:=by kernel_rfl
theorem gCo:Tryz.prog.globalNamed (nmL 1)=some 4:=by kernel_rfl
theorem tSz:(Tryz.prog.globals[1]?).map (·.type)=some 138:=by kernel_rfl
theorem tIn:(Tryz.prog.globals[3]?).map (·.type)=some 355:=by kernel_rfl
theorem tCo:(Tryz.prog.globals[4]?).map (·.type)=some 405:=by kernel_rfl
def lSz:List Int:=litsOf (H:=Unit) Rows.laid_caisson_nodes_sizes
def lIn:List Int:=litsOf (H:=Unit) Rows.laid_caisson_digests_initial
def lCo:List Int:=litsOf (H:=Unit) Rows.laid_caisson_digests_constants
theorem dSz:(Rows.laid_caisson_nodes_sizes:DataW Unit)=.agg (lSz.map fun x=>.lit (.int .i64 x)):=rfl
theorem dIn:(Rows.laid_caisson_digests_initial:DataW Unit)=.agg (lIn.map fun x=>.lit (.int .u32 x)):=rfl
theorem dCo:(Rows.laid_caisson_digests_constants:DataW Unit)=.agg (lCo.map fun x=>.lit (.int .u32 x)):=rfl
def nSz:Nat:=608742554432415203373
def nIn:Nat:=41557658498906279274860226408925318911382702236748615442085426012007055353447
def nCo:Nat:=25051139735836467913601071899189108501681633092613316132753366958947502841281110980347811086624969305314199562795868290539880502533646505489797110349007385020507326982043050618112420254613810441709594605123090411975756494285771699200369901479195251226368983824020564277645963860728452821576845901498668417244438721537663670541944820957180957595559282976806173113161068298822071065329290006052849814285001949914564097058408480133985233335799884203712730341384999677089997083749077591931498939520449886954646413138343858395935213418018409268340744776361518554939863400075967197509182087778881547827184266701615699472280
theorem eSz:∀ i,i < 2→lSz.getD i 0=pkg .i64 nSz i:=by
  have:((List.range 2).all fun i=>decide (lSz.getD i 0=pkg .i64 nSz i))=true:=by kernel_rfl
  intro i hi
  exact of_decide_eq_true (List.all_eq_true.1 this i (List.mem_range.2 hi))
theorem eIn:∀ i,i < 8→lIn.getD i 0=pkg .u32 nIn i:=by
  have:((List.range 8).all fun i=>decide (lIn.getD i 0=pkg .u32 nIn i))=true:=by kernel_rfl
  intro i hi
  exact of_decide_eq_true (List.all_eq_true.1 this i (List.mem_range.2 hi))
theorem eCo:∀ i,i < 64→lCo.getD i 0=pkg .u32 nCo i:=by
  have:((List.range 64).all fun i=>decide (lCo.getD i 0=pkg .u32 nCo i))=true:=by kernel_rfl
  intro i hi
  exact of_decide_eq_true (List.all_eq_true.1 this i (List.mem_range.2 hi))
theorem laidMetH_data {P:Program}{l:List (String×DataW Unit)}{w:World}(h:laidMetH P l w):laidMet P (l.filter fun x=>x.2.handleName?.isNone) w:=by
  unfold laidMetH at h
  split at h
  · rename_i hf
    have e:(l.filter fun x=>x.2.handleName?.isNone)=l:=by
      rw[List.filter_eq_self]
      intro x hx
      cases hn:x.2.handleName? with
      | none=>rfl
      | some y =>
        have:x∈l.filter fun x=>x.2.handleName?.isSome:=List.mem_filter.2 ⟨hx,by rw[hn]; rfl⟩
        rw[hf] at this
        cases this
    rw[e]; exact h
  · exact h.1
theorem filt7:(Rows.storesOpenRow.laid.filter fun x=>x.2.handleName?.isNone)=[(nmL 0,Rows.laid_caisson_digests_initial),(nmL 1,Rows.laid_caisson_digests_constants),(nmL 3,Rows.laid_caisson_nodes_sizes),(nmL 4,Rows.laid_caisson_stores_errPoison)]:=by kernel_rfl
theorem of_laid {W:World}(h:laidMetH Tryz.prog Rows.storesOpenRow.laid W):(∀ i,i < 2→W.cell? ⟨1,i,none⟩=some (.int .i64 (pkg .i64 nSz i)))∧(∀ i,i < 8→W.cell? ⟨3,i,none⟩=some (.int .u32 (pkg .u32 nIn i)))∧∀ i,i < 64→W.cell? ⟨4,i,none⟩=some (.int .u32 (pkg .u32 nCo i)):=by
  replace h:=laidMetH_data h
  rw[filt7] at h
  obtain⟨ps,⟨g1,t1,cs1,f1,p1,q1,hg1,ht1,hv1,hd1,⟨g2,t2,cs2,f2,p2,q2,hg2,ht2,hv2,hd2,⟨g0,t0,cs0,f0,p0,q0,hg0,ht0,hv0,hd0,⟨_,_,_,_,_,_,_,_,_,_,_,_⟩,_⟩,_⟩,_⟩,_,_⟩:=h
  obtain rfl:=Option.some.inj (gIn.symm.trans hg1)
  obtain rfl:=Option.some.inj (gCo.symm.trans hg2)
  obtain rfl:=Option.some.inj (gSz.symm.trans hg0)
  obtain rfl:=Option.some.inj (tIn.symm.trans ht1)
  obtain rfl:=Option.some.inj (tCo.symm.trans ht2)
  obtain rfl:=Option.some.inj (tSz.symm.trans ht0)
  have c61:Tryz.prog.cellsOf 59=1:=by kernel_rfl
  have c3:Tryz.prog.cellsOf 3=1:=by kernel_rfl
  rw[dIn] at hd1
  rw[dCo] at hd2
  rw[dSz] at hd0
  have k1:=arr_cells Tryz.underlying355 Tryz.underlying59 c61 hd1
  have k2:=arr_cells Tryz.underlying405 Tryz.underlying59 c61 hd2
  have k0:=arr_cells Tryz.underlying138 Tryz.underlying3 c3 hd0
  refine⟨fun i hi=>?_,fun i hi=>?_,fun i hi=>?_⟩
  · rw[World.var?_cell hg0 hv0 i,←eSz i hi,←k0 i hi]; simp
  · rw[World.var?_cell hg1 hv1 i,←eIn i hi,←k1 i hi]; simp
  · rw[World.var?_cell hg2 hv2 i,←eCo i hi,←k2 i hi]; simp
theorem star7 : "*" ++ "errors.errorString" = "*errors.errorString" := by decide
theorem row503 (u:TypeId) (h:Tryz.prog.typeName? 3 u=some "*errors.errorString"):u=503 :=
  typeName_ptr_named (nm := "errors.errorString") (by rw[star7]; kernel_rfl) (by kernel_rfl) (by decide) u (by rw[star7]; exact h)
theorem gEr:Tryz.prog.globalNamed (nmL 4)=some 0:=by kernel_rfl
theorem tEr:(Tryz.prog.globals[0]?).map (·.type)=some 232:=by kernel_rfl
theorem errS:∃ te ts f,Tryz.prog.underlying 503=some (.pointer te)∧Tryz.prog.underlying te=some (.struct #[f])∧f.type=ts∧f.offset=0∧Tryz.prog.underlying ts=some .string∧Tryz.prog.cellsOf te=1∧Tryz.prog.cellsOf ts=1:=⟨_,_,_,Tryz.underlying503,Tryz.underlying523,rfl,rfl,Tryz.underlying9,by kernel_rfl,by kernel_rfl⟩
theorem laid_err {W:World}(h:laidMetH Tryz.prog Rows.storesOpenRow.laid W):∃ a,W.cell? ⟨0,0,none⟩=some (.iface 503 (.pointer (some a))):=by
  replace h:=laidMetH_data h
  rw[filt7] at h
  have h4:=h.tail.tail.tail
  obtain⟨te,ts,f,e1,e2,e3,e4,e5,e6,e7⟩:=errS
  obtain⟨a,s,h5,_⟩:=laid_sentinel h4 gEr tEr Tryz.underlying232 row503 e1 e2 e3 e4 e5 e6 e7
  exact⟨a,by simpa using World.var?_cell gEr h5 0⟩
theorem gEt:Tryz.prog.globalNamed "errors.errorType" = some 2:=by kernel_rfl
theorem rtE:(Tryz.prog.cutTypes.find? (·.1 == "internal/reflectlite.rtype")).map (·.2)=some 437:=by kernel_rfl
theorem oneRow:((List.range 534).filter fun t=>Tryz.prog.rowNamed t [101,114,114,111,114])=[232]:=by kernel_rfl
theorem sizeT:Tryz.prog.types.size=534:=by kernel_rfl
theorem laid_type {W:World}(h:laidMetH Tryz.prog Rows.storesOpenRow.laid W):W.cell? ⟨2,0,none⟩=some (.iface 437 (.agg #[.pointer (some ⟨5,232,none⟩)])):=by
  have hf:(Rows.storesOpenRow.laid.filter fun x=>x.2.handleName?.isSome)=[("errors.errorType", Rows.laid_errors_errorType)]:=by kernel_rfl
  unfold laidMetH at h
  rw[hf] at h
  obtain⟨name,u,ty,e1,e2,e3,e4,e5⟩:=h.2 _ (List.mem_singleton.2 rfl)
  have en:name=[101,114,114,111,114]:=(Option.some.inj e1).symm
  subst en
  obtain rfl:=Option.some.inj (rtE.symm.trans e2)
  have hm:ty∈(List.range 534).filter fun t=>Tryz.prog.rowNamed t [101,114,114,111,114]:=List.mem_filter.2 ⟨List.mem_range.2 (by rw[←sizeT]; exact e3),e4⟩
  rw[oneRow] at hm
  obtain rfl:=List.mem_singleton.1 hm
  have hh:typeHandle Tryz.prog 232=.pointer (some ⟨5,232,none⟩):=by kernel_rfl
  rw[hh] at e5
  simpa using World.var?_cell gEt e5 0
theorem R_err {W:World}{C:Ctx}(hw:C.w=W) (ho:C.ok true 0) (h:∃ a,W.cell? ⟨0,0,none⟩=some (.iface 503 (.pointer (some a)))):R C gErr.v (.val (.pointer (some ⟨0,0,none⟩))):=by
  subst hw
  obtain⟨a,h⟩:=h
  have hg:gOk C.pur 9117368320:=fun _ _=>⟨ho,a,h⟩
  let cs:FC 9117368320:=⟨#[],#[.nilIface],fun _=>rfl,fun _=>rfl⟩
  obtain⟨h1,_⟩:=FC.vw_gl (by decide) (by decide) hg cs
  exact⟨0,0,rfl,ho,cs,⟨rfl,h1⟩,⟨_,_,rfl,trivial,rfl⟩,hg⟩
theorem R_errT {W:World}{C:Ctx}(hw:C.w=W) (ho:C.ok true 2) (h:W.cell? ⟨2,0,none⟩=some (.iface 437 (.agg #[.pointer (some ⟨5,232,none⟩)]))):R C gErrT.v (.val (.pointer (some ⟨2,0,none⟩))):=by
  subst hw
  let c1:FC 17185112296:=⟨#[],#[.nilIface],fun h=>absurd h (by decide),fun _=>rfl⟩
  let cs:FC 2147484086:=⟨#[],#[.agg #[.pointer (some ⟨5,232,none⟩)]],fun _=>rfl,fun _=>rfl⟩
  have h1:c1.vw C.pur.pur.w=.pointer (some ⟨5,232,none⟩):=by rw[FC.vw_ptr (by decide)]
  have h2:cs.vw C.pur.w=.iface 437 (.agg #[.pointer (some ⟨5,232,none⟩)]):=by rw[FC.vw_lt (by decide)]; rfl
  refine⟨2,0,rfl,ho,cs,⟨rfl,by rw[h2]; exact h⟩,⟨_,_,rfl,⟨_,.sc,.nl,rfl,rfl,⟨c1,⟨rfl,?_⟩,⟨_,_,rfl,trivial,rfl⟩,fun _ h=>absurd h (by decide)⟩,rfl⟩,rfl⟩,gOk.lt (by decide)⟩
  show some (Value.pointer (some ⟨5,232,none⟩))=some _
  rw[←h1]
  rfl
def CW (W:World):Ctx:=⟨fun u b=>u=true∧b < 5,fun _=>False,fun _=>.bool true,fun _=>.sc,W⟩
theorem CW_glob {W:World}(h:laidMetH Tryz.prog Rows.storesOpenRow.laid W) (g:Nat):R (CW W).pur (@Gl.G (@instGl gO) g) (.val (.pointer (some ⟨g,0,none⟩))):=by
  obtain⟨h0,h1,h2⟩:=of_laid h
  match g with
  | 0=>exact R_err (C:=(CW W).pur) rfl ⟨rfl,by decide⟩ (laid_err h)
  | 1=>exact⟨1,0,rfl,⟨rfl,by decide⟩,.sc,rfl,fun i hi=>⟨rfl,by rw[Nat.zero_add]; show W.cell? ⟨1,i * 1,none⟩=_; rw[Nat.mul_one]; exact h0 i hi⟩⟩
  | 2=>exact R_errT (C:=(CW W).pur) rfl ⟨rfl,by decide⟩ (laid_type h)
  | 3=>exact⟨3,0,rfl,⟨rfl,by decide⟩,.sc,rfl,fun i hi=>⟨rfl,by rw[Nat.zero_add]; show W.cell? ⟨3,i * 1,none⟩=_; rw[Nat.mul_one]; exact h1 i hi⟩⟩
  | 4=>exact⟨4,0,rfl,⟨rfl,by decide⟩,.sc,rfl,fun i hi=>⟨rfl,by rw[Nat.zero_add]; show W.cell? ⟨4,i * 1,none⟩=_; rw[Nat.mul_one]; exact h2 i hi⟩⟩
  | g + 5=>trivial
theorem cell_lt {W:World}{b:Nat}{x:Value}(h:W.cell? ⟨b,0,none⟩=some x):b < W.heap.size:=by
  rcases Nat.lt_or_ge b W.heap.size with h1 | h1
  · exact h1
  · have:W.heap[b]?=none:=Array.getElem?_eq_none h1
    simp [World.cell?,this] at h
theorem CW_lt {W:World}(h:laidMetH Tryz.prog Rows.storesOpenRow.laid W):∀ u b,(CW W).ok u b→b < (CW W).w.heap.size:=by
  rintro u b ⟨_,hb⟩
  have:=cell_lt ((of_laid h).2.2 0 (by decide))
  show b < W.heap.size
  omega
theorem Tryz.own:ownKnob Tryz.prog.godebug=none:=by kernel_rfl
theorem Tryz.laidOut:laidOutB Tryz.prog=true:=by kernel_rfl
theorem door_met (os:Os) (args:Array Value):laidMetH Tryz.prog Rows.storesOpenRow.laid ((World.doorLaid Tryz.prog 2000 os).forCall (fun _ _=>0) ⟨#[],args,[]⟩).memory :=
  laidMetH_of_parts3 (fuel:=8) (laidMet_of_run' 8 (by kernel_rfl) (by kernel_rfl)) (by kernel_rfl) (by kernel_rfl)
theorem okWide_st {P:Program}{w:World}{r:Reach}{base:Nat}{t:TypeId}{v:Value}{fs:Array Field}(hs:P.underlying t=some (.struct fs)) (h:Value.okWide P w r base t v):∃ cs,v=.agg cs∧cs.size=P.cellsOf t∧Row.okWide P w r base t cs:=by
  unfold Value.okWide at h
  rw[hs] at h
  exact h
theorem fld_int {H:Type}{enc:TypeId×Value→H}{P:Program}{W:World}{base fuel:Nat}{sp:Nat→Bool}{held:Bool}{t:TypeId}{fs:Array Field}{cs:Array Value}{x:DataW H×List MemPlace}{i:Nat}{f:Field}{k:IntKind}
    (hs:P.underlying t=some (.struct fs)) (h:DataW.trod enc P W base sp held fuel t cs.toList=some x) (hi:fs[i]?=some f) (hk:P.underlying f.type=some (.int k)) (hc:P.cellsOf f.type=1):∃ n,cs[f.offset]?=some (.int k n)∧(Lit.int k n).wf=true:=by
  obtain⟨xs,n,_,_,_,hlen,hf⟩:=DataW.trod_struct hs h
  have h1:=hf i f hi
  have hxi:i < xs.length:=by rw[hlen]; exact (Array.getElem?_eq_some_iff.1 hi).1
  rw[List.getElem?_eq_getElem hxi,hc] at h1
  obtain⟨v,e1,_,e3⟩:=DataW.trod_int hk h1
  refine⟨v,?_,e3⟩
  have:=congrArg (fun z=>z[0]?) e1
  simpa [List.getElem?_take,List.getElem?_drop] using this
theorem fld_arr {H:Type}{enc:TypeId×Value→H}{P:Program}{W:World}{base fuel:Nat}{sp:Nat→Bool}{held:Bool}{t:TypeId}{fs:Array Field}{cs:Array Value}{x:DataW H×List MemPlace}{i:Nat}{f:Field}{k:IntKind}{e:TypeId}{N:Nat}
    (hs:P.underlying t=some (.struct fs)) (h:DataW.trod enc P W base sp held fuel t cs.toList=some x) (hi:fs[i]?=some f) (ha:P.underlying f.type=some (.array N e)) (hk:P.underlying e=some (.int k)) (hc:P.cellsOf e=1) (hN:P.cellsOf f.type=N):∃ m:Nat→Int,∀ j,j < N→cs[f.offset + j]?=some (.int k (m j))∧(Lit.int k (m j)).wf=true:=by
  obtain⟨xs,n,_,_,_,hlen,hf⟩:=DataW.trod_struct hs h
  have h1:=hf i f hi
  have hxi:i < xs.length:=by rw[hlen]; exact (Array.getElem?_eq_some_iff.1 hi).1
  rw[List.getElem?_eq_getElem hxi,hN] at h1
  obtain⟨ys,q,_,_,_,hlen2,hel⟩:=DataW.trod_array ha h1
  have key:∀ j,j < N→∃ v,cs[f.offset + j]?=some (.int k v)∧(Lit.int k v).wf=true:=by
    intro j hj
    have h2:=hel j hj
    rw[hc,Nat.mul_one] at h2
    have hyj:j < ys.length:=by omega
    rw[List.getElem?_eq_getElem hyj] at h2
    obtain⟨v,e1,_,e3⟩:=DataW.trod_int hk h2
    refine⟨v,?_,e3⟩
    have h3:=congrArg (fun z=>z[0]?) e1
    have h4:(((cs.toList.drop f.offset).take N).drop j)[0]?=some (Value.int k v):=by
      rw[List.getElem?_take] at h3
      simpa using h3
    rw[List.getElem?_drop,List.getElem?_take,List.getElem?_drop] at h4
    simp only[Nat.add_zero,hj,if_true,Array.getElem?_toList] at h4
    exact h4
  refine⟨fun j=>if hj:j < N then Classical.choose (key j hj) else 0,fun j hj=>?_⟩
  simp only[dif_pos hj]
  exact Classical.choose_spec (key j hj)
noncomputable def fs131:Array Field:=Tryz.prog.fieldsOf 131
noncomputable def fd (i:Nat):Field:=fs131.getD i default
theorem und131:Tryz.prog.underlying 131=some (.struct fs131):=by kernel_rfl
theorem cells131:Tryz.prog.cellsOf 131=39:=by kernel_rfl
theorem fd0:fs131[0]?=some (fd 0):=by kernel_rfl
theorem of0:(fd 0).offset=0:=by kernel_rfl
theorem uf0:Tryz.prog.underlying (fd 0).type=some (.int .i64):=by kernel_rfl
theorem cd0:Tryz.prog.cellsOf (fd 0).type=1:=by kernel_rfl
theorem fd1:fs131[1]?=some (fd 1):=by kernel_rfl
theorem of1:(fd 1).offset=1:=by kernel_rfl
theorem uf1:Tryz.prog.underlying (fd 1).type=some (.int .i64):=by kernel_rfl
theorem cd1:Tryz.prog.cellsOf (fd 1).type=1:=by kernel_rfl
theorem fd2:fs131[2]?=some (fd 2):=by kernel_rfl
theorem of2:(fd 2).offset=2:=by kernel_rfl
theorem uf2:Tryz.prog.underlying (fd 2).type=some (.int .i64):=by kernel_rfl
theorem cd2:Tryz.prog.cellsOf (fd 2).type=1:=by kernel_rfl
theorem fd3:fs131[3]?=some (fd 3):=by kernel_rfl
theorem of3:(fd 3).offset=3:=by kernel_rfl
theorem uf3:Tryz.prog.underlying (fd 3).type=some (.int .i64):=by kernel_rfl
theorem cd3:Tryz.prog.cellsOf (fd 3).type=1:=by kernel_rfl
theorem fd4:fs131[4]?=some (fd 4):=by kernel_rfl
theorem of4:(fd 4).offset=4:=by kernel_rfl
theorem uf4:Tryz.prog.underlying (fd 4).type=some (.int .u64):=by kernel_rfl
theorem cd4:Tryz.prog.cellsOf (fd 4).type=1:=by kernel_rfl
theorem fd5:fs131[5]?=some (fd 5):=by kernel_rfl
theorem of5:(fd 5).offset=5:=by kernel_rfl
theorem uf5:Tryz.prog.underlying (fd 5).type=some (.int .u64):=by kernel_rfl
theorem cd5:Tryz.prog.cellsOf (fd 5).type=1:=by kernel_rfl
theorem fd6:fs131[6]?=some (fd 6):=by kernel_rfl
theorem of6:(fd 6).offset=6:=by kernel_rfl
theorem uf6:Tryz.prog.underlying (fd 6).type=some (.array 32 5):=by kernel_rfl
theorem ue6:Tryz.prog.underlying 5=some (.int .u8):=by kernel_rfl
theorem ce6:Tryz.prog.cellsOf 5=1:=by kernel_rfl
theorem cd6:Tryz.prog.cellsOf (fd 6).type=32:=by kernel_rfl
theorem fd7:fs131[7]?=some (fd 7):=by kernel_rfl
theorem of7:(fd 7).offset=38:=by kernel_rfl
theorem uf7:Tryz.prog.underlying (fd 7).type=some (.int .u8):=by kernel_rfl
theorem cd7:Tryz.prog.cellsOf (fd 7).type=1:=by kernel_rfl
theorem und138:Tryz.prog.underlying 138=some (.array 2 3):=by kernel_rfl
theorem und3:Tryz.prog.underlying 3=some (.int .i64):=by kernel_rfl
theorem cells3:Tryz.prog.cellsOf 3=1:=by kernel_rfl
theorem cells138:Tryz.prog.cellsOf 138=2:=by kernel_rfl
theorem okWide_ar {P:Program}{w:World}{r:Reach}{base:Nat}{t e:TypeId}{n:Nat}{v:Value}(hs:P.underlying t=some (.array n e)) (h:Value.okWide P w r base t v):∃ cs,v=.agg cs∧cs.size=P.cellsOf t∧Row.okWide P w r base t cs:=by
  unfold Value.okWide at h
  rw[hs] at h
  exact h
theorem arr_int {H:Type}{enc:TypeId×Value→H}{P:Program}{W:World}{base fuel:Nat}{sp:Nat→Bool}{held:Bool}{t e:TypeId}{N:Nat}{cs:Array Value}{x:DataW H×List MemPlace}{k:IntKind}
    (ha:P.underlying t=some (.array N e)) (h:DataW.trod enc P W base sp held fuel t cs.toList=some x) (hk:P.underlying e=some (.int k)) (hc:P.cellsOf e=1):∃ m:Nat→Int,∀ j,j < N→cs[j]?=some (.int k (m j)):=by
  obtain⟨ys,q,_,_,_,hlen2,hel⟩:=DataW.trod_array ha h
  have key:∀ j,j < N→∃ v,cs[j]?=some (.int k v):=by
    intro j hj
    have h2:=hel j hj
    rw[hc,Nat.mul_one] at h2
    have hyj:j < ys.length:=by omega
    rw[List.getElem?_eq_getElem hyj] at h2
    obtain⟨v,e1,_,_⟩:=DataW.trod_int hk h2
    refine⟨v,?_⟩
    have h3:=congrArg (fun z=>z[0]?) e1
    rw[List.getElem?_take] at h3
    simpa using h3
  refine⟨fun j=>if hj:j < N then Classical.choose (key j hj) else 0,fun j hj=>?_⟩
  simp only[dif_pos hj]
  exact Classical.choose_spec (key j hj)
theorem noId_cfg (c:Cf) (z:Nat→Int):noId (mkL ([c.k,zK z].map KV.v))=true:=by
  have h:(zK z).v=(KV.ar 2 (nI 0) (trF (fun i=>.int .i64 (z i)) 2)).v:=by
    show V.arr 2 _=V.arr 2 _
    congr 1
    funext i
    show (kset _ (enc 1) (kset _ (enc 0) .te)).atv (enc i) _=(kset _ (enc 1) (kset _ (enc 0) .te)).atv (enc i) _
    rw[kset_at,kset_at,kset_at,kset_at,clo_int,clo_int]
  have h2:noId (mkL [c.k.v,(KV.ar 2 (nI 0) (trF (fun i=>.int .i64 (z i)) 2)).v])=true:=by kernel_rfl
  rw[←h] at h2
  exact h2
set_option maxRecDepth 100000 in
theorem StoresOpen_lifted (os:Os) (started:os.Started) (H:Type) (enc:TypeId×Value→H) :
    ReturnsInHanded {} Tryz.checked os 8 .any (fun w args=>(Rows.storesOpenSpec.pre enc Tryz.prog Tryz.f8 [] false w args∧laidMetH Tryz.prog Rows.storesOpenRow.laid w)∧sizedMet enc Tryz.prog Tryz.f8 (OpenSpec.ofChange Rows.storesOpenSpec) false w args)
      (Rows.storesOpenSpec.post enc Tryz.prog Tryz.f8 false true false false):=by
  refine returnsInHanded_of_change_and (C:=Tryz.checked) (X:=fun w _=>laidMetH Tryz.prog Rows.storesOpenRow.laid w) (fun _ _ _ hh h=>h.of_heap hh) Tryz.own started (by kernel_rfl) Tryz.func8
    (ChangeSpec.witness_shaped (enc:=enc) (C:=Tryz.checked) (os:=os) (X:=fun w _=>laidMetH Tryz.prog Rows.storesOpenRow.laid w) false (World.doorLaid Tryz.prog 2000 os) #[.agg #[.int .i64 0,.int .i64 0,.int .i64 0,.int .i64 0,.int .u64 0,.int .u64 0,.int .u8 0,.int .u8 0,.int .u8 0,.int .u8 0,.int .u8 0,.int .u8 0,.int .u8 0,.int .u8 0,.int .u8 0,.int .u8 0,.int .u8 0,.int .u8 0,.int .u8 0,.int .u8 0,.int .u8 0,.int .u8 0,.int .u8 0,.int .u8 0,.int .u8 0,.int .u8 0,.int .u8 0,.int .u8 0,.int .u8 0,.int .u8 0,.int .u8 0,.int .u8 0,.int .u8 0,.int .u8 0,.int .u8 0,.int .u8 0,.int .u8 0,.int .u8 0,.int .u8 0],.agg #[.int .i64 0,.int .i64 0]] 8 rfl (World.shaped_of_RefB (by kernel_rfl) (by kernel_rfl)) (by kernel_rfl) (by kernel_rfl) (by kernel_rfl) (door_met os _)) ?_
  intro W base args ds gs before hval0 hW _ _ hL _
  have hval:∀(j:Nat) t v,Tryz.f8.params[j]?=some t→args[j]?=some v→Value.okWide Tryz.prog W .any base t v:=hval0
  have hW':=hW
  obtain⟨p,q,hA0,hV,rfl,hfz,hnd⟩:=hW
  have hA:DataW.TrodAll enc Tryz.prog W 0 (fun _=>true) true Tryz.f8.params.toList args.toList ds p:=hA0
  rw[Tryz.params8] at hA hval
  obtain⟨rfl,rfl⟩:=trodVars_none hV
  obtain⟨v0,r1,d0,e1,a1,b1,hv0,rfl,rfl,h0,hA1⟩:=trodAll_cons (show DataW.TrodAll enc Tryz.prog W 0 (fun _=>true) true (131::[138]) args.toList ds p from hA)
  obtain⟨v1,r2,d1,e2,a2,b2,rfl,rfl,rfl,h1,hA2⟩:=trodAll_cons hA1
  obtain⟨rfl,rfl,rfl⟩:=trodAll_nil hA2
  obtain rfl:args=#[v0,v1]:=Array.toList_inj.1 (by rw[hv0])
  obtain⟨cs,rfl,hcs,_⟩:=okWide_st und131 (hval 0 131 v0 rfl rfl)
  obtain⟨cz,rfl,hcz,_⟩:=okWide_ar und138 (hval 1 138 v1 rfl rfl)
  obtain⟨fuel,hf⟩:=h0
  obtain⟨fuel1,hf1⟩:=h1
  have hc2:cz.size=2:=by rw[hcz]; exact cells138
  obtain⟨z,hz⟩:=arr_int und138 (show DataW.trod enc Tryz.prog W 0 (fun _=>true) true fuel1 138 cz.toList=some (d1,a2) from hf1) und3 cells3
  have hc39:cs.size=39:=by rw[hcs]; exact cells131
  have hf:DataW.trod enc Tryz.prog W 0 (fun _=>true) true fuel 131 cs.toList=some (d0,a1):=hf
  obtain⟨B,hB,_⟩:=fld_int und131 hf fd0 uf0 cd0
  obtain⟨S,hS,_⟩:=fld_int und131 hf fd1 uf1 cd1
  obtain⟨F,hF,_⟩:=fld_int und131 hf fd2 uf2 cd2
  obtain⟨D,hD,_⟩:=fld_int und131 hf fd3 uf3 cd3
  obtain⟨L,hL0,wL⟩:=fld_int und131 hf fd4 uf4 cd4
  obtain⟨R0,hR,wR⟩:=fld_int und131 hf fd5 uf5 cd5
  obtain⟨Z,hZ,_⟩:=fld_int und131 hf fd7 uf7 cd7
  obtain⟨m,hm⟩:=fld_arr und131 hf fd6 uf6 ue6 ce6 cd6
  obtain⟨L,rfl⟩:∃ n:Nat,L=.ofNat n:=⟨L.toNat,by have:=(bounds_u64 wL).1; show L=((L.toNat:Nat):Int); omega⟩
  obtain⟨R0,rfl⟩:∃ n:Nat,R0=.ofNat n:=⟨R0.toNat,by have:=(bounds_u64 wR).1; show R0=((R0.toNat:Nat):Int); omega⟩
  rw[of0] at hB
  rw[of1] at hS
  rw[of2] at hF
  rw[of3] at hD
  rw[of4] at hL0
  rw[of5] at hR
  rw[of6] at hm
  rw[of7] at hZ
  let c:Cf:=⟨B,S,F,D,L,R0,fun i=>(m i).toNat,Z⟩
  have hmm:∀ i,i < 32→cs[6 + i]?=some (.int .u8 (.ofNat (m i).toNat)):=fun i hi=>by
    obtain⟨e1,e2⟩:=hm i hi
    rw[e1]
    have:=(bounds_u8 e2).1
    rw[show (Int.ofNat (m i).toNat)=m i by show (((m i).toNat:Nat):Int)=m i; omega]
  have hrel:R (CW W).pur (mkL ([c.k,zK z].map KV.v)) (.list [.agg cs,.agg cz]) :=
    ⟨_,_,rfl,⟨cs,.sc,.cons .sc (.cons .sc (.cons .sc (.cons .sc (.cons .sc (.cons (.arr 32 .sc) (.cons .sc .nl)))))),rfl,by rw[hc39]; rfl,⟨rfl,hB⟩,
      ⟨.sc,_,rfl,⟨rfl,hS⟩,⟨.sc,_,rfl,⟨rfl,hF⟩,⟨.sc,_,rfl,⟨rfl,hD⟩,⟨.sc,_,rfl,⟨rfl,hL0⟩,⟨.sc,_,rfl,⟨rfl,hR⟩,
        ⟨.arr 32 .sc,_,rfl,⟨.sc,rfl,fun i hi=>by
          show R _ ((trF (fun i=>.int .u8 (.ofNat (m i).toNat)) 32).atv (Go.Y.enc i) (KV.int .u8 (.ofNat 0)).v) _
          rw[trF_at hi]
          exact⟨rfl,by show cs[6 + i * 1]?=_; rw[Nat.mul_one]; exact hmm i hi⟩⟩,
          ⟨.sc,_,rfl,⟨rfl,hZ⟩,rfl⟩⟩⟩⟩⟩⟩⟩⟩,⟨_,_,rfl,⟨cz,.sc,rfl,by rw[hc2]; rfl,fun i hi=>by
          show R _ ((trF (fun i=>.clo (.int .i64 (z i))) 2).atv (Go.Y.enc i) (nI 0).v) _
          rw[trF_at hi,clo_int]
          exact⟨rfl,by show cz[i * 1]?=_; rw[Nat.mul_one]; exact hz i hi⟩⟩,rfl⟩⟩
  have hc:=@calls_kcs gO Tryz.prog 8 s8 kcs8 (CW W) [c.k,zK z] [.agg cs,.agg cz] (CW_lt hL) (CW_glob hL) hrel ⟨(c,z),rfl,trivial,rfl⟩ (noId_cfg c z)
  refine hc.mono ?_
  rintro e W' ⟨hb,he⟩
  exact⟨_,he,law_post Tryz.laidOut hW' (by kernel_rfl) rfl rfl (by kernel_rfl) Tryz.underlying4 hb⟩
theorem StoresOpen_said:Rows.StoresOpenSaid :=
  OpenClaim.holds_of_wide 8 Tryz.f8 rfl rfl rfl rfl rfl rfl rfl ⟨rfl,rfl,rfl,rfl,rfl⟩ rfl rfl rfl rfl rfl cf8 Tryz.func8 facts8
    (of_decide_eq_true (by kernel_rfl)) (by unfold Func.isWrapper; rw[if_neg (by decide +kernel)]; exact⟨rfl,rfl⟩)
    (fun os started H enc _=>StoresOpen_lifted os started H enc)
theorem StoresOpen_holds:Rows.StoresOpenCardSaid :=
  Claim7.holds_tied_plain_at .later [] [.data,.data,.handle,.data,.sentinel] true (true, "6fac96ebe54569f97cab989157ff8600b0f64b10956e1d40609f2ca4e8e8c1d7") true
    StoresOpen_said (fun _ h=>by cases h) cw8 (fun _ h=>by cases h) storesOpen_row_tie rfl ⟨rfl,rfl⟩ cm8 rfl
    (fun f fn hf hfn=>by
      obtain rfl:f=8:=Option.some.inj (cf8.symm.trans hf) |>.symm
      obtain rfl:fn=Tryz.f8:=(Option.some.inj (Tryz.func8.symm.trans hfn)).symm
      exact⟨cl8,fun j t ht=>by
        rw[Tryz.params8] at ht
        have hm:t∈[131,138]:=by simpa using Array.mem_of_getElem? ht
        have hall:([131,138].all fun u=>!Tryz.prog.wantsStandIn u)=true:=by kernel_rfl
        exact (show Tryz.prog.wantsStandIn t=false by simpa using List.all_eq_true.1 hall t hm)⟩)
    cg8
end
end Go.K
