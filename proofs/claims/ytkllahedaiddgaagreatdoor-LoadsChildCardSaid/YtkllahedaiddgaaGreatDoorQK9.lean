/- LoadsChild: from the run to the card. No condition. -/
import Derived.Test.YtkllahedaiddgaaGreatDoorQK3
import Derived.Test.YtkllahedaiddgaaGreatDoorK19
import Derived.Test.YtkllahedaiddgaaGreatDoorQK9J
import Derived.Test.YtkllahedaiddgaaGreatDoorKTie
import Derived.Test.YtkllahedaiddgaaGreatDoorChecked
import Derived.Test.YtkllahedaiddgaaGreatDoorRows
import Derived.Test.YtkllahedaiddgaaGreatDoorTie
import Derived.Test.YtkllahedaiddgaaGreatDoorCards
import Derived.LaidMore
import Derived.OpenShut
import Derived.Stop.Joined
import Derived.SevenTiedAt
set_option linter.unusedSimpArgs false
set_option linter.unusedVariables false
namespace Go.K
open Go.Ab Go.Y Go.Proofs Go.ChangeShapes Go.WideShapes Go.ChangeAt Go.WideMaps Go.WideElems Go.RowKit
open Go.Proofs.YtkllahedaiddgaaGreatDoor
noncomputable section
attribute [local irreducible] zj zi
def zcp {H:Type}:DataW H→List Int
 | .agg l=>l.map fun x=>match x with
  | .lit (.int _ n)=>n
  | _=>0
 | _=>[]
def nmL (i:Nat):String:=(Rows.loadsChildRow.laid.getD i (Rows.loadsChildRow.func,.nil)).1
theorem gSz:Tryz.prog.globalNamed (nmL 2)=some 0:=by kernel_rfl
theorem gIn:Tryz.prog.globalNamed (nmL 0)=some 1:=by kernel_rfl
theorem gCo:Tryz.prog.globalNamed (nmL 1)=some 2:=by kernel_rfl
theorem tSz:(Tryz.prog.globals[0]?).map (·.type)=some 365:=by kernel_rfl
theorem tIn:(Tryz.prog.globals[1]?).map (·.type)=some 330:=by kernel_rfl
theorem tCo:(Tryz.prog.globals[2]?).map (·.type)=some 329:=by kernel_rfl
def lSz:List Int:=zcp (H:=Unit) Rows.laid_caisson_nodes_sizes
def lIn:List Int:=zcp (H:=Unit) Rows.laid_caisson_digests_initial
def lCo:List Int:=zcp (H:=Unit) Rows.laid_caisson_digests_constants
theorem dSz:(Rows.laid_caisson_nodes_sizes:DataW Unit)=.agg (lSz.map fun x=>.lit (.int .i64 x)):=rfl
theorem dIn:(Rows.laid_caisson_digests_initial:DataW Unit)=.agg (lIn.map fun x=>.lit (.int .u32 x)):=rfl
theorem dCo:(Rows.laid_caisson_digests_constants:DataW Unit)=.agg (lCo.map fun x=>.lit (.int .u32 x)):=rfl
def nSz:Nat:=608742554432415203373
def nIn:Nat:=41557658498906279274860226408925318911382702236748615442085426012007055353447
def nCo:Nat:=25051139735836467913601071899189108501681633092613316132753366958947502841281110980347811086624969305314199562795868290539880502533646505489797110349007385020507326982043050618112420254613810441709594605123090411975756494285771699200369901479195251226368983824020564277645963860728452821576845901498668417244438721537663670541944820957180957595559282976806173113161068298822071065329290006052849814285001949914564097058408480133985233335799884203712730341384999677089997083749077591931498939520449886954646413138343858395935213418018409268340744776361518554939863400075967197509182087778881547827184266701615699472280
theorem eSz:∀ i,i < 2→lSz.getD i 0=pkg .i64 nSz i:=by
 have:((List.range 2).all fun i=>decide (lSz.getD i 0=pkg .i64 nSz i))=true:=by kernel_rfl
 intro i hi
 exact of_decide_eq_true (List.all_eq_true.1 this i (List.mem_range.2 hi))
theorem eIn:∀ i,i < 8→lIn.getD i 0=pkg .u32 nIn i:=by
 have:((List.range 8).all fun i=>decide (lIn.getD i 0=pkg .u32 nIn i))=true:=by kernel_rfl
 intro i hi
 exact of_decide_eq_true (List.all_eq_true.1 this i (List.mem_range.2 hi))
theorem eCo:∀ i,i < 64→lCo.getD i 0=pkg .u32 nCo i:=by
 have:((List.range 64).all fun i=>decide (lCo.getD i 0=pkg .u32 nCo i))=true:=by kernel_rfl
 intro i hi
 exact of_decide_eq_true (List.all_eq_true.1 this i (List.mem_range.2 hi))
theorem zmD {W:World}(h:laidMetH Tryz.prog Rows.loadsChildRow.laid W):(∀ i,i < 2→W.cell? ⟨0,i,none⟩=some (.int .i64 (pkg .i64 nSz i)))∧(∀ i,i < 8→W.cell? ⟨1,i,none⟩=some (.int .u32 (pkg .u32 nIn i)))∧∀ i,i < 64→W.cell? ⟨2,i,none⟩=some (.int .u32 (pkg .u32 nCo i)):=by
 rw[MakeChecks.laidMetH_plain _ _ _ (by kernel_rfl)] at h
 obtain⟨ps,⟨g1,t1,cs1,f1,p1,q1,hg1,ht1,hv1,hd1,⟨g2,t2,cs2,f2,p2,q2,hg2,ht2,hv2,hd2,⟨g0,t0,cs0,f0,p0,q0,hg0,ht0,hv0,hd0,_,_⟩,_⟩,_⟩,_,_⟩:=h
 obtain rfl:=Option.some.inj (gIn.symm.trans hg1)
 obtain rfl:=Option.some.inj (gCo.symm.trans hg2)
 obtain rfl:=Option.some.inj (gSz.symm.trans hg0)
 obtain rfl:=Option.some.inj (tIn.symm.trans ht1)
 obtain rfl:=Option.some.inj (tCo.symm.trans ht2)
 obtain rfl:=Option.some.inj (tSz.symm.trans ht0)
 have c61:Tryz.prog.cellsOf 67=1:=by kernel_rfl
 have c3:Tryz.prog.cellsOf 3=1:=by kernel_rfl
 rw[dIn] at hd1
 rw[dCo] at hd2
 rw[dSz] at hd0
 have k1:=Xs Tryz.underlying330 Tryz.underlying67 c61 hd1
 have k2:=Xs Tryz.underlying329 Tryz.underlying67 c61 hd2
 have k0:=Xs Tryz.underlying365 Tryz.underlying3 c3 hd0
 refine⟨fun i hi=>?_,fun i hi=>?_,fun i hi=>?_⟩
 ·rw[World.var?_cell hg0 hv0 i,←eSz i hi,←k0 i hi]; simp
 ·rw[World.var?_cell hg1 hv1 i,←eIn i hi,←k1 i hi]; simp
 ·rw[World.var?_cell hg2 hv2 i,←eCo i hi,←k2 i hi]; simp
theorem Ju {W:World}{b:Nat}{x:Value}(h:W.cell? ⟨b,0,none⟩=some x):b < W.heap.size:=by
 rcases Nat.lt_or_ge b W.heap.size with h1 | h1
 ·exact h1
 ·have:W.heap[b]?=none:=Array.getElem?_eq_none h1
  simp [World.cell?,this] at h
def CW (W:World):Ctx:=⟨fun u b=>u=true∧b < W.heap.size,fun _=>False,fun _=>.bool true,fun _=>.sc,W⟩
theorem zmE {W:World}(h:laidMetH Tryz.prog Rows.loadsChildRow.laid W) (g:Nat):R (CW W).pur (@Gl.G (@instGl gO) g) (.val (.pointer (some ⟨g,0,none⟩))):=by
 obtain⟨h0,h1,h2⟩:=zmD h
 match g with
 | 0=>exact⟨0,0,rfl,⟨rfl,Ju (h0 0 (by decide))⟩,.sc,rfl,fun i hi=>⟨rfl,by rw[Nat.zero_add]; show W.cell? ⟨0,i * 1,none⟩=_; rw[Nat.mul_one]; exact h0 i hi⟩⟩
 | 1=>exact⟨1,0,rfl,⟨rfl,Ju (h1 0 (by decide))⟩,.sc,rfl,fun i hi=>⟨rfl,by rw[Nat.zero_add]; show W.cell? ⟨1,i * 1,none⟩=_; rw[Nat.mul_one]; exact h1 i hi⟩⟩
 | 2=>exact⟨2,0,rfl,⟨rfl,Ju (h2 0 (by decide))⟩,.sc,rfl,fun i hi=>⟨rfl,by rw[Nat.zero_add]; show W.cell? ⟨2,i * 1,none⟩=_; rw[Nat.mul_one]; exact h2 i hi⟩⟩
 | 3=>trivial
 | g + 4=>trivial
theorem zxg {W:World}(h:laidMetH Tryz.prog Rows.loadsChildRow.laid W):∀ u b,(CW W).ok u b→b < (CW W).w.heap.size:=by
 rintro u b ⟨_,hb⟩
 exact hb
theorem Tryz.own:ownKnob Tryz.prog.godebug=none:=by kernel_rfl
theorem Tryz.laidOut:laidOutB Tryz.prog=true:=by kernel_rfl
theorem ziQ (os:Os) (args:Array Value):laidMetH Tryz.prog Rows.loadsChildRow.laid ((World.doorLaid Tryz.prog 2000 os).forCall (fun _ _=>0) ⟨#[],args,[]⟩).memory :=
 laidMetH_of_parts3 (fuel:=8) (laidMet_of_run' 8 (by kernel_rfl) (by kernel_rfl)) (by kernel_rfl) (by kernel_rfl)
theorem XB {P:Program}{w:World}{r:Reach}{base:Nat}{t:TypeId}{v:Value}{fs:Array Field}(hs:P.underlying t=some (.struct fs)) (h:Value.okWide P w r base t v):∃ cs,v=.agg cs∧cs.size=P.cellsOf t∧Row.okWide P w r base t cs:=by
 unfold Value.okWide at h
 rw[hs] at h
 exact h
theorem zxh:Tryz.prog.underlying 66=some (.struct (Tryz.prog.fieldsOf 66)):=by kernel_rfl
theorem zsm:Tryz.prog.underlying 102=some (.struct (Tryz.prog.fieldsOf 102)):=by kernel_rfl
theorem zsn:Tryz.prog.underlying 148=some (.struct (Tryz.prog.fieldsOf 148)):=by kernel_rfl
theorem zmF:Tryz.prog.cellsOf 66=j1.sh.size + (Ty.cons (.sl zkv) (.cons (.sl j1) (.cons j1 (.cons j1 .nl)))).sh.size:=by kernel_rfl
theorem ziR:Tryz.prog.cellsOf 102=j1.sh.size + (Ty.cons (.int .u32) (.cons (.ar 4 zc3) (.cons (.ar 4 znL) .nl))).sh.size:=by kernel_rfl
theorem ziS:Tryz.prog.cellsOf 148=tyI.sh.size + (Ty.cons tyI (.cons zc3 .nl)).sh.size:=by kernel_rfl
theorem zCt:(tyV.ok Tryz.prog).1 66=true:=by kernel_rfl
theorem zCu:(zAs.ok Tryz.prog).1 102=true:=by kernel_rfl
theorem zCw:(zzx.ok Tryz.prog).1 148=true:=by kernel_rfl
theorem zmG (t:L9):vJ (mkL ((a9 t).map KV.v))=true:=by kernel_rfl
def w8 (n:Nat):List Value:=List.replicate n (Value.int .u8 0)
def wRc:List Value:=[Value.int .u8 0,Value.int .u32 0,Value.int .u64 0]++w8 32
def zCx:Array Value:=#[.agg #[.int .u8 0,.slice none 0 0,.slice none 0 0,.int .u8 0,.int .u8 0],.agg ([Value.int .u8 0,Value.int .u32 0]++wRc++wRc++wRc++wRc++w8 132).toArray,.agg ([Value.int .i64 0,Value.int .i64 0]++wRc).toArray]
set_option maxRecDepth 100000 in
theorem ZR (os:Os) (started:os.Started) (H:Type) (enc:TypeId×Value→H) :
  ReturnsInHanded {} Tryz.checked os 9 .any (fun w args=>(Rows.loadsChildSpec.pre enc Tryz.prog Tryz.f9 [] false w args∧laidMetH Tryz.prog Rows.loadsChildRow.laid w)∧sizedMet enc Tryz.prog Tryz.f9 (OpenSpec.ofChange Rows.loadsChildSpec) false w args)
   (Rows.loadsChildSpec.post enc Tryz.prog Tryz.f9 false true false false):=by
 refine returnsInHanded_of_change_and (C:=Tryz.checked) (X:=fun w _=>laidMetH Tryz.prog Rows.loadsChildRow.laid w) (fun _ _ _ hh h=>h.of_heap hh) Tryz.own started (by kernel_rfl) Tryz.func9
  (ChangeSpec.witness_shaped (enc:=enc) (C:=Tryz.checked) (os:=os) (X:=fun w _=>laidMetH Tryz.prog Rows.loadsChildRow.laid w) false (World.doorLaid Tryz.prog 2000 os) zCx 8 rfl (World.shaped_of_RefB (by kernel_rfl) (by kernel_rfl)) (by kernel_rfl) (by kernel_rfl) (by kernel_rfl) (ziQ os _)) ?_
 intro W base args ds gs before hval0 hW _ _ hL _
 have hval:∀(j:Nat) t v,Tryz.f9.params[j]?=some t→args[j]?=some v→Value.okWide Tryz.prog W .any base t v:=hval0
 have hW':=hW
 obtain⟨p,q,hA0,hV,rfl,hfz,hnd⟩:=hW
 have hA:DataW.TrodAll enc Tryz.prog W 0 (fun _=>true) true Tryz.f9.params.toList args.toList ds p:=hA0
 rw[Tryz.params9] at hA hval
 obtain⟨rfl,rfl⟩:=trodVars_none hV
 obtain⟨v0,r1,d0,e1,a1,b1,hv0,rfl,rfl,h0,hA1⟩:=trodAll_cons (show DataW.TrodAll enc Tryz.prog W 0 (fun _=>true) true (66::[102,148]) args.toList ds p from hA)
 obtain⟨v1,r2,d1,e2,a2,b2,rfl,rfl,rfl,h1,hA2⟩:=trodAll_cons hA1
 obtain⟨v2,r3,d2,e3,a3,b3,rfl,rfl,rfl,h2,hA3⟩:=trodAll_cons hA2
 obtain⟨rfl,rfl,rfl⟩:=trodAll_nil hA3
 obtain rfl:args=#[v0,v1,v2]:=Array.toList_inj.1 (by rw[hv0])
 obtain⟨cs,rfl,hcs,_⟩:=XB zxh (hval 0 66 v0 rfl rfl)
 obtain⟨cn,rfl,hcn,_⟩:=XB zsm (hval 1 102 v1 rfl rfl)
 obtain⟨cz,rfl,hcz,_⟩:=XB zsn (hval 2 148 v2 rfl rfl)
 obtain⟨fuel,hf⟩:=h0
 obtain⟨fuel1,hf1⟩:=h1
 obtain⟨fuel2,hf2⟩:=h2
 have hcan:zge W (CW W).pur:=⟨rfl,fun b hb=>⟨rfl,hb⟩⟩
 obtain⟨k0,q0,R0⟩:=zc4 (W:=W) (a:=j1) (b:=.cons (.sl zkv) (.cons (.sl j1) (.cons j1 (.cons j1 .nl)))) zCt (show DataW.trod enc Tryz.prog W 0 (fun _=>true) true fuel 66 cs.toList=some (d0,a1) from hf) (hcs.trans zmF)
 obtain⟨k1,q1,R1⟩:=zc4 (W:=W) (a:=j1) (b:=.cons (.int .u32) (.cons (.ar 4 zc3) (.cons (.ar 4 znL) .nl))) zCu (show DataW.trod enc Tryz.prog W 0 (fun _=>true) true fuel1 102 cn.toList=some (d1,a2) from hf1) (hcn.trans ziR)
 obtain⟨k2,q2,R2⟩:=zc4 (W:=W) (a:=tyI) (b:=.cons tyI (.cons zc3 .nl)) zCw (show DataW.trod enc Tryz.prog W 0 (fun _=>true) true fuel2 148 cz.toList=some (d2,a3) from hf2) (hcz.trans ziS)
 obtain⟨x,hx,ix⟩:=zDU q0
 obtain⟨y,y1,y2,iy⟩:=zAu q1
 obtain⟨z,zb,rc,z1,z2,iz⟩:=zzy q2
 have hrel:R (CW W).pur (mkL ((a9 ⟨x,y,z,zb,rc⟩).map KV.v)) (.list [.agg cs,.agg cn,.agg cz]) :=
  ⟨_,_,rfl,ix _ _ (R0 _ hcan),⟨_,_,rfl,iy _ _ (R1 _ hcan),⟨_,_,rfl,iz _ _ (R2 _ hcan),rfl⟩⟩⟩
 have hc:=@zfJ gO Tryz.prog 9 sL9 kL9 (CW W) (a9 ⟨x,y,z,zb,rc⟩) [.agg cs,.agg cn,.agg cz] (zxg hL) (zmE hL) hrel ⟨⟨x,y,z,zb,rc⟩,rfl,⟨hx,⟨y1,y2⟩,z2,z1⟩,rfl⟩ (zmG _)
 refine hc.mono ?_
 rintro e W' ⟨hb,he⟩
 exact⟨_,he,zhd Tryz.laidOut hW' (by kernel_rfl) rfl rfl (by kernel_rfl) Tryz.underlying4 hb⟩
theorem X0:Rows.LoadsChildSaid :=
 OpenClaim.holds_of_wide 9 Tryz.f9 rfl rfl rfl rfl rfl rfl rfl ⟨rfl,rfl,rfl,rfl,rfl⟩ rfl rfl rfl rfl rfl cf9 Tryz.func9 zuz
  (of_decide_eq_true (by kernel_rfl)) (by unfold Func.isWrapper; rw[if_neg (by decide +kernel)]; exact⟨rfl,rfl⟩)
  (fun os started H enc _=>ZR os started H enc)
theorem zfQ:Rows.LoadsChildCardSaid :=
 Claim7.holds_tied_plain_at .later [] [.data,.data,.data] true (true, "62ae0aa706a0c78825d22dda79fdf38a29da37409efa4e4c30e845216701d58d") true
  X0 (fun _ h=>by cases h) cw9 (fun _ h=>by cases h) loadsChild_row_tie rfl ⟨rfl,rfl⟩ cm9 rfl
  (fun f fn hf hfn=>by
   obtain rfl:f=9:=Option.some.inj (cf9.symm.trans hf) |>.symm
   obtain rfl:fn=Tryz.f9:=(Option.some.inj (Tryz.func9.symm.trans hfn)).symm
   exact⟨cl9,fun j t ht=>by
    rw[Tryz.params9] at ht
    have hm:t∈[66,102,148]:=by simpa using Array.mem_of_getElem? ht
    have hall:([66,102,148].all fun u=>!Tryz.prog.wantsStandIn u)=true:=by kernel_rfl
    exact (show Tryz.prog.wantsStandIn t=false by simpa using List.all_eq_true.1 hall t hm)⟩)
  cg9
end
end Go.K
