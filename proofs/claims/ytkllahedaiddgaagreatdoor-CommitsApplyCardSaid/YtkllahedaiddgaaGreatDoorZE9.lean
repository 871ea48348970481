/- CommitsApply: from the run to the card. No condition. -/
import Derived.Test.YtkllahedaiddgaaGreatDoorZL5
import Derived.Test.YtkllahedaiddgaaGreatDoorOD
import Derived.Test.YtkllahedaiddgaaGreatDoorK19
import Derived.Test.YtkllahedaiddgaaGreatDoorChecked
import Derived.Test.YtkllahedaiddgaaGreatDoorRows
import Derived.Test.YtkllahedaiddgaaGreatDoorTie
import Derived.Test.YtkllahedaiddgaaGreatDoorCards
import Derived.LaidMore
import Derived.OpenShut
import Derived.Stop.Joined
import Derived.SevenTiedAt
set_option linter.unusedSimpArgs false
set_option linter.unusedVariables false
namespace Go.K
open Go.Ab Go.Y Go.Proofs Go.ChangeShapes Go.WideShapes Go.ChangeAt Go.WideMaps Go.WideElems Go.RowKit
open Go.Proofs.YtkllahedaiddgaaGreatDoor
noncomputable section
attribute [local irreducible] zp zo
def zbp {H:Type}:DataW H→List Int
 | .agg l=>l.map fun x=>match x with
  | .lit (.int _ n)=>n
  | _=>0
 | _=>[]
def nmL (i:Nat):String:=(Rows.commitsApplyRow.laid.getD i (Rows.commitsApplyRow.func,.nil)).1
theorem gSz:Tryz.prog.globalNamed (nmL 2)=some 0:=by kernel_rfl
theorem gIn:Tryz.prog.globalNamed (nmL 0)=some 1:=by kernel_rfl
theorem gCo:Tryz.prog.globalNamed (nmL 1)=some 2:=by kernel_rfl
theorem tSz:(Tryz.prog.globals[0]?).map (·.type)=some 365:=by kernel_rfl
theorem tIn:(Tryz.prog.globals[1]?).map (·.type)=some 330:=by kernel_rfl
theorem tCo:(Tryz.prog.globals[2]?).map (·.type)=some 329:=by kernel_rfl
def lSz:List Int:=zbp (H:=Unit) Rows.laid_caisson_nodes_sizes
def lIn:List Int:=zbp (H:=Unit) Rows.laid_caisson_digests_initial
def lCo:List Int:=zbp (H:=Unit) Rows.laid_caisson_digests_constants
theorem dSz:(Rows.laid_caisson_nodes_sizes:DataW Unit)=.agg (lSz.map fun x=>.lit (.int .i64 x)):=rfl
theorem dIn:(Rows.laid_caisson_digests_initial:DataW Unit)=.agg (lIn.map fun x=>.lit (.int .u32 x)):=rfl
theorem dCo:(Rows.laid_caisson_digests_constants:DataW Unit)=.agg (lCo.map fun x=>.lit (.int .u32 x)):=rfl
def nSz:Nat:=608742554432415203373
def nIn:Nat:=41557658498906279274860226408925318911382702236748615442085426012007055353447
def nCo:Nat:=25051139735836467913601071899189108501681633092613316132753366958947502841281110980347811086624969305314199562795868290539880502533646505489797110349007385020507326982043050618112420254613810441709594605123090411975756494285771699200369901479195251226368983824020564277645963860728452821576845901498668417244438721537663670541944820957180957595559282976806173113161068298822071065329290006052849814285001949914564097058408480133985233335799884203712730341384999677089997083749077591931498939520449886954646413138343858395935213418018409268340744776361518554939863400075967197509182087778881547827184266701615699472280
theorem eSz:∀ i,i < 2→lSz.getD i 0=pkg .i64 nSz i:=by
 have:((List.range 2).all fun i=>decide (lSz.getD i 0=pkg .i64 nSz i))=true:=by kernel_rfl
 intro i hi
 exact of_decide_eq_true (List.all_eq_true.1 this i (List.mem_range.2 hi))
theorem eIn:∀ i,i < 8→lIn.getD i 0=pkg .u32 nIn i:=by
 have:((List.range 8).all fun i=>decide (lIn.getD i 0=pkg .u32 nIn i))=true:=by kernel_rfl
 intro i hi
 exact of_decide_eq_true (List.all_eq_true.1 this i (List.mem_range.2 hi))
theorem eCo:∀ i,i < 64→lCo.getD i 0=pkg .u32 nCo i:=by
 have:((List.range 64).all fun i=>decide (lCo.getD i 0=pkg .u32 nCo i))=true:=by kernel_rfl
 intro i hi
 exact of_decide_eq_true (List.all_eq_true.1 this i (List.mem_range.2 hi))
theorem zkF {W:World}(h:laidMetH Tryz.prog Rows.commitsApplyRow.laid W):(∀ i,i < 2→W.cell? ⟨0,i,none⟩=some (.int .i64 (pkg .i64 nSz i)))∧(∀ i,i < 8→W.cell? ⟨1,i,none⟩=some (.int .u32 (pkg .u32 nIn i)))∧∀ i,i < 64→W.cell? ⟨2,i,none⟩=some (.int .u32 (pkg .u32 nCo i)):=by
 rw[MakeChecks.laidMetH_plain _ _ _ (by kernel_rfl)] at h
 obtain⟨ps,⟨g1,t1,cs1,f1,p1,q1,hg1,ht1,hv1,hd1,⟨g2,t2,cs2,f2,p2,q2,hg2,ht2,hv2,hd2,⟨g0,t0,cs0,f0,p0,q0,hg0,ht0,hv0,hd0,_,_⟩,_⟩,_⟩,_,_⟩:=h
 obtain rfl:=Option.some.inj (gIn.symm.trans hg1)
 obtain rfl:=Option.some.inj (gCo.symm.trans hg2)
 obtain rfl:=Option.some.inj (gSz.symm.trans hg0)
 obtain rfl:=Option.some.inj (tIn.symm.trans ht1)
 obtain rfl:=Option.some.inj (tCo.symm.trans ht2)
 obtain rfl:=Option.some.inj (tSz.symm.trans ht0)
 have c61:Tryz.prog.cellsOf 67=1:=by kernel_rfl
 have c3:Tryz.prog.cellsOf 3=1:=by kernel_rfl
 rw[dIn] at hd1
 rw[dCo] at hd2
 rw[dSz] at hd0
 have k1:=ZN Tryz.underlying330 Tryz.underlying67 c61 hd1
 have k2:=ZN Tryz.underlying329 Tryz.underlying67 c61 hd2
 have k0:=ZN Tryz.underlying365 Tryz.underlying3 c3 hd0
 refine⟨fun i hi=>?_,fun i hi=>?_,fun i hi=>?_⟩
 ·rw[World.var?_cell hg0 hv0 i,←eSz i hi,←k0 i hi]; simp
 ·rw[World.var?_cell hg1 hv1 i,←eIn i hi,←k1 i hi]; simp
 ·rw[World.var?_cell hg2 hv2 i,←eCo i hi,←k2 i hi]; simp
theorem VJ {W:World}{b:Nat}{x:Value}(h:W.cell? ⟨b,0,none⟩=some x):b < W.heap.size:=by
 rcases Nat.lt_or_ge b W.heap.size with h1 | h1
 ·exact h1
 ·have:W.heap[b]?=none:=Array.getElem?_eq_none h1
  simp [World.cell?,this] at h
def CW (W:World):Ctx:=⟨fun u b=>u=true∧b < W.heap.size,fun _=>False,fun _=>.bool true,fun _=>.sc,W⟩
theorem zkG {W:World}(h:laidMetH Tryz.prog Rows.commitsApplyRow.laid W) (g:Nat):R (CW W).pur (@Gl.G (@instGl gO) g) (.val (.pointer (some ⟨g,0,none⟩))):=by
 obtain⟨h0,h1,h2⟩:=zkF h
 match g with
 | 0=>exact⟨0,0,rfl,⟨rfl,VJ (h0 0 (by decide))⟩,.sc,rfl,fun i hi=>⟨rfl,by rw[Nat.zero_add]; show W.cell? ⟨0,i * 1,none⟩=_; rw[Nat.mul_one]; exact h0 i hi⟩⟩
 | 1=>exact⟨1,0,rfl,⟨rfl,VJ (h1 0 (by decide))⟩,.sc,rfl,fun i hi=>⟨rfl,by rw[Nat.zero_add]; show W.cell? ⟨1,i * 1,none⟩=_; rw[Nat.mul_one]; exact h1 i hi⟩⟩
 | 2=>exact⟨2,0,rfl,⟨rfl,VJ (h2 0 (by decide))⟩,.sc,rfl,fun i hi=>⟨rfl,by rw[Nat.zero_add]; show W.cell? ⟨2,i * 1,none⟩=_; rw[Nat.mul_one]; exact h2 i hi⟩⟩
 | 3=>trivial
 | g + 4=>trivial
theorem zum {W:World}(h:laidMetH Tryz.prog Rows.commitsApplyRow.laid W):∀ u b,(CW W).ok u b→b < (CW W).w.heap.size:=by
 rintro u b ⟨_,hb⟩
 exact hb
theorem Tryz.own:ownKnob Tryz.prog.godebug=none:=by kernel_rfl
theorem Tryz.laidOut:laidOutB Tryz.prog=true:=by kernel_rfl
theorem zhz (os:Os) (args:Array Value):laidMetH Tryz.prog Rows.commitsApplyRow.laid ((World.doorLaid Tryz.prog 2000 os).forCall (fun _ _=>0) ⟨#[],args,[]⟩).memory :=
 laidMetH_of_parts3 (fuel:=8) (laidMet_of_run' 8 (by kernel_rfl) (by kernel_rfl)) (by kernel_rfl) (by kernel_rfl)
section
variable {H:Type}{enc:TypeId×Value→H}{P:Program}{W:World}{base:Nat}{sp:Nat→Bool}{held:Bool}
theorem zpy {e:Ty}{t:TypeId}{y:Value}{fuel:Nat}{x:DataW H×List MemPlace}(h1:((Ty.sl e).ok P).1 t=true) (h2:DataW.trod enc P W base sp held fuel t [y]=some x):OpV W (.sl e) y:=by
 obtain⟨v,h3,h4⟩:=(opT (.sl e)).1 t [y] fuel x h1 h2
 refine⟨v,h3,fun C hC=>?_⟩
 obtain⟨len,f,rfl,_⟩:=h3
 obtain⟨a,c,⟨_,q1⟩,q2,q3,q4⟩:=h4 C (fun i=>[y][i]?) 0 hC (fun i hi=>by simp)
 exact⟨a,c,Option.some.inj (by simpa using q1),q2,q3,q4⟩
end
instance:Inhabited Wr:=⟨⟨0,0,fun _=>0⟩⟩
def zpz:Ty:=.cons (.int .i64) (.cons (.sl zqK) .nl)
theorem zun {v:KV}(h:zpz.is v):∃ x:Wr,(Lit.int .i64 x.sc).wf=true∧(∀ j,x.by' j < 256)∧Imp v.v x.k.v:=by
 obtain⟨_,_,rfl,⟨z,rfl,hz⟩,_,_,rfl,hb,rfl⟩:=h
 obtain⟨n,f,h1,h2⟩:=zqL hb
 exact⟨⟨z,n,f⟩,hz,h1,Imp.cons (Imp.refl _) (Imp.cons h2 (Imp.refl _))⟩
theorem zpA {v:KV}(h:(Ty.sl zpz).is v):∃(m:Nat) (W:Nat→Wr),(∀ i,i < m→(Lit.int .i64 (W i).sc).wf=true)∧(∀ i j,(W i).by' j < 256)∧Imp v.v (va m W).v:=by
 obtain⟨n,f,rfl,hf⟩:=h
 obtain⟨g,hg⟩:=chA (Q:=fun i (x:Wr)=>(Lit.int .i64 x.sc).wf=true∧(∀ j,x.by' j < 256)∧Imp (f i).v x.k.v) fun i hi=>zun (hf i hi)
 refine⟨n,fun i=>if i < n then g i else ⟨0,0,fun _=>0⟩,fun i hi=>?_,fun i j=>?_,ziD (s:=zoS) fun i hi=>?_⟩
 ·show (Lit.int .i64 (if i < n then g i else ⟨0,0,fun _=>0⟩:Wr).sc).wf=true
  rw[if_pos hi]; exact (hg i hi).1
 ·show (if i < n then g i else ⟨0,0,fun _=>0⟩:Wr).by' j < 256
  split
  ·rename_i h; exact (hg i h).2.1 j
  ·exact Nat.zero_lt_succ _
 ·show Imp (f i).v (if i < n then g i else ⟨0,0,fun _=>0⟩:Wr).k.v
  rw[if_pos hi]; exact (hg i hi).2.2
theorem zxE:((Ty.sl zpz).ok Tryz.prog).1 45=true:=by kernel_rfl
noncomputable def zpB (x:L12):List KV:=[kU8 x.a,va x.m x.W,.int .i64 x.k]
theorem zhA (x:L12):xy (mkL ((zpB x).map KV.v))=true:=by kernel_rfl
def zuo:Array Value:=#[.int .u8 0,.slice none 0 0,.int .i64 0]
set_option maxRecDepth 100000 in
theorem wF (os:Os) (started:os.Started) (H:Type) (enc:TypeId×Value→H) :
  ReturnsInHanded {} Tryz.checked os 12 .any (fun w args=>(Rows.commitsApplySpec.pre enc Tryz.prog Tryz.f12 [] false w args∧laidMetH Tryz.prog Rows.commitsApplyRow.laid w)∧sizedMet enc Tryz.prog Tryz.f12 (OpenSpec.ofChange Rows.commitsApplySpec) false w args)
   (Rows.commitsApplySpec.post enc Tryz.prog Tryz.f12 false true false false):=by
 refine returnsInHanded_of_change_and (C:=Tryz.checked) (X:=fun w _=>laidMetH Tryz.prog Rows.commitsApplyRow.laid w) (fun _ _ _ hh h=>h.of_heap hh) Tryz.own started (by kernel_rfl) Tryz.func12
  (ChangeSpec.witness_shaped (enc:=enc) (C:=Tryz.checked) (os:=os) (X:=fun w _=>laidMetH Tryz.prog Rows.commitsApplyRow.laid w) false (World.doorLaid Tryz.prog 2000 os) zuo 8 rfl (World.shaped_of_RefB (by kernel_rfl) (by kernel_rfl)) (by kernel_rfl) (by kernel_rfl) (by kernel_rfl) (zhz os _)) ?_
 intro W base args ds gs VK hval0 hW _ _ hL _
 have hval:∀(j:Nat) t v,Tryz.f12.params[j]?=some t→args[j]?=some v→Value.okWide Tryz.prog W .any base t v:=hval0
 have hW':=hW
 obtain⟨p,q,hA0,hV,rfl,hfz,hnd⟩:=hW
 have hA:DataW.TrodAll enc Tryz.prog W 0 (fun _=>true) true Tryz.f12.params.toList args.toList ds p:=hA0
 rw[Tryz.params12] at hA hval
 obtain⟨rfl,rfl⟩:=trodVars_none hV
 obtain⟨v0,r1,d0,e1,a1,b1,hv0,rfl,rfl,h0,hA1⟩:=trodAll_cons (show DataW.TrodAll enc Tryz.prog W 0 (fun _=>true) true (5::[45,3]) args.toList ds p from hA)
 obtain⟨v1,r2,d1,e2,a2,b2,rfl,rfl,rfl,h1,hA2⟩:=trodAll_cons hA1
 obtain⟨v2,r3,d2,e3,a3,b3,rfl,rfl,rfl,h2,hA3⟩:=trodAll_cons hA2
 obtain⟨rfl,rfl,rfl⟩:=trodAll_nil hA3
 obtain rfl:args=#[v0,v1,v2]:=Array.toList_inj.1 (by rw[hv0])
 obtain⟨a,rfl,rfl,rfl,wa⟩:=open_int Tryz.underlying5 (hval 0 5 v0 rfl rfl) h0
 obtain⟨k,rfl,rfl,rfl,wk⟩:=open_int Tryz.underlying3 (hval 2 3 v2 rfl rfl) h2
 obtain⟨sa,sl,sc,rfl⟩:=okWide_slice Tryz.underlying45 (hval 1 45 v1 rfl rfl)
 obtain⟨fuel,hf⟩:=h1
 have hcan:zeB W (CW W).pur:=⟨rfl,fun b hb=>⟨rfl,hb⟩⟩
 obtain⟨k1,q1,R1⟩:=zpy (W:=W) zxE (show DataW.trod enc Tryz.prog W 0 (fun _=>true) true fuel 45 [.slice sa sl sc]=some (d1,a2) from hf)
 obtain⟨m,W',w1,w2,ix⟩:=zpA q1
 have ba:=bounds_u8 wa
 obtain⟨a,rfl⟩:∃ n:Nat,a=.ofNat n:=⟨a.toNat,by show a=((a.toNat:Nat):Int); omega⟩
 have ha:a < 256:=by
  have:((a:Nat):Int)≤255:=ba.2
  omega
 have hrel:R (CW W).pur (mkL ((zpB ⟨a,m,W',k⟩).map KV.v)) (.list [.int .u8 (.ofNat a),.slice sa sl sc,.int .i64 k]) :=
  ⟨_,_,rfl,rfl,⟨_,_,rfl,ix _ _ (R1 _ hcan),⟨_,_,rfl,rfl,rfl⟩⟩⟩
 have hc:=@zer gO Tryz.prog 12 zvl zyf (CW W) (zpB ⟨a,m,W',k⟩) [.int .u8 (.ofNat a),.slice sa sl sc,.int .i64 k] (zum hL) (zkG hL) hrel ⟨⟨a,m,W',k⟩,rfl,⟨ha,w1,w2⟩,rfl⟩ (zhA _)
 refine hc.mono ?_
 rintro e W' ⟨hb,he⟩
 exact⟨_,he,zfE Tryz.laidOut hW' (by kernel_rfl) rfl rfl (by kernel_rfl) Tryz.underlying4 hb⟩
theorem Zg:Rows.CommitsApplySaid :=
 OpenClaim.holds_of_wide 12 Tryz.f12 rfl rfl rfl rfl rfl rfl rfl ⟨rfl,rfl,rfl,rfl,rfl⟩ rfl rfl rfl rfl rfl ztg Tryz.func12 zkp
  (of_decide_eq_true (by kernel_rfl)) (by unfold Func.isWrapper; rw[if_neg (by decide +kernel)]; exact⟨rfl,rfl⟩)
  (fun os started H enc _=>wF os started H enc)
theorem zbq:Rows.CommitsApplyCardSaid :=
 Claim7.holds_tied_plain_at .later [] [.data,.data,.data] true (true, "62ae0aa706a0c78825d22dda79fdf38a29da37409efa4e4c30e845216701d58d") true
  Zg (fun _ h=>by cases h) zw9 (fun _ h=>by cases h) commitsApply_row_tie rfl ⟨rfl,rfl⟩ zxa rfl
  (fun f fn hf hfn=>by
   obtain rfl:f=12:=Option.some.inj (ztg.symm.trans hf) |>.symm
   obtain rfl:fn=Tryz.f12:=(Option.some.inj (Tryz.func12.symm.trans hfn)).symm
   exact⟨zxb,fun j t ht=>by
    rw[Tryz.params12] at ht
    have hm:t∈[5,45,3]:=by simpa using Array.mem_of_getElem? ht
    have hall:([5,45,3].all fun u=>!Tryz.prog.wantsStandIn u)=true:=by kernel_rfl
    exact (show Tryz.prog.wantsStandIn t=false by simpa using List.all_eq_true.1 hall t hm)⟩)
  zxc
end
end Go.K
