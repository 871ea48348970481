/- errors.As and errors.Is of a refusal: closed facts on what they call. No condition. errors.As of a refusal, into a variable of the kind: what it does. No condition. errors.As of a refusal, into a variable of the kind: the walk. No condition. errors.As of a refusal: the contract. No condition. errors.Is: of nothing, and of the sentinel itself. No condition. errors.Is of a refusal: its cause is nothing, or the sentinel. No condition. -/
import Derived.Test.YtfpmealbbibhpaaGreatDoorK17
import Derived.Test.YtfpmealbbibhpaaGreatDoorProg
import Derived.WalkKit
import Derived.LaidEql
import Derived.Stop.Asserts
import Derived.RowKitTokens
import Derived.Deep.WholeRow
import Derived.Below
import Derived.Lib.SmallJoins
namespace Go.AS
open Go Go.RowKit Go.Extern Go.Proofs
theorem valueOf345 (t:Addr) (w:World):(ReflectliteValue.unpack (.iface 345 (.pointer (some t)))).run Tryz.prog w=.ok (.agg #[.pointer (some ⟨5,345,none⟩),.pointer (some ⟨w.heap.size,0,none⟩),.int .u64 150]) (w.alloc (.cells #[.pointer (some t)] 345)):=by kernel_rfl
theorem type345 (a:Addr) (w:World):(ReflectliteValue.methodAny (ReflectliteValue.valueError "reflectlite.Value.Type" 0) (fun t _ _ _=>ReflectliteType.toType t) #[.agg #[.pointer (some ⟨5,345,none⟩),.pointer (some a),.int .u64 150]]).run Tryz.prog w=.ok (.iface 437 (.agg #[.pointer (some ⟨5,345,none⟩)])) w:=by kernel_rfl
theorem methodKind (h:Value) (w:World):(Go.method 396 437 (.agg #[h]) "Kind").run Tryz.prog w=.ok (350,h) w:=by kernel_rfl
theorem kind345 (w:World):((ReflectliteType.abiMethod fun t=>(fun a:Nat=>Value.int IntKind.u8 (a:Int)) <$> Rtype.kind t) #[.pointer (some ⟨5,345,none⟩)]).run Tryz.prog w=.ok (.int .u8 22) w:=by kernel_rfl
theorem kind247 (w:World):((ReflectliteType.abiMethod fun t=>(fun a:Nat=>Value.int IntKind.u8 (a:Int)) <$> Rtype.kind t) #[.pointer (some ⟨5,247,none⟩)]).run Tryz.prog w=.ok (.int .u8 25) w:=by kernel_rfl
theorem parts345 (a:Addr) (w:World):(ReflectliteValue.parts (.agg #[.pointer (some ⟨5,345,none⟩),.pointer (some a),.int .u64 150])).run Tryz.prog w=.ok (some (345,a,150)) w:=by kernel_rfl
theorem methodElem (h:Value) (w:World):(Go.method 396 437 (.agg #[h]) "Elem").run Tryz.prog w=.ok (364,.agg #[h]) w:=by kernel_rfl
theorem methodImplements (h:Value) (w:World):(Go.method 396 437 (.agg #[h]) "Implements").run Tryz.prog w=.ok (365,.agg #[h]) w:=by kernel_rfl
theorem methodAssignableTo (h:Value) (w:World):(Go.method 396 437 (.agg #[h]) "AssignableTo").run Tryz.prog w=.ok (362,.agg #[h]) w:=by kernel_rfl
theorem methodComparable (h:Value) (w:World):(Go.method 396 437 (.agg #[h]) "Comparable").run Tryz.prog w=.ok (363,.agg #[h]) w:=by kernel_rfl
theorem elem345 (w:World):(ReflectliteType.method ReflectliteType.elem #[.agg #[.pointer (some ⟨5,345,none⟩)]]).run Tryz.prog w=.ok (.iface 437 (.agg #[.pointer (some ⟨5,247,none⟩)])) w:=by kernel_rfl
theorem implements247 (w:World):(ReflectliteType.relation "Implements" ReflectliteType.implements_ #[.agg #[.pointer (some ⟨5,247,none⟩)],.iface 437 (.agg #[.pointer (some ⟨5,232,none⟩)])]).run Tryz.prog w=.ok (.bool true) w:=by kernel_rfl
theorem typeOf247 (v:Value) (w:World):(ReflectliteType.typeOf #[.iface 247 v]).run Tryz.prog w=.ok (.iface 437 (.agg #[.pointer (some ⟨5,247,none⟩)])) w:=by kernel_rfl
theorem typeOf503 (v:Value) (w:World):(ReflectliteType.typeOf #[.iface 503 v]).run Tryz.prog w=.ok (.iface 437 (.agg #[.pointer (some ⟨5,503,none⟩)])) w:=by kernel_rfl
theorem assignable247 (w:World):(ReflectliteType.relation "AssignableTo" ReflectliteType.assignableTo #[.agg #[.pointer (some ⟨5,247,none⟩)],.iface 437 (.agg #[.pointer (some ⟨5,247,none⟩)])]).run Tryz.prog w=.ok (.bool true) w:=by kernel_rfl
theorem valueOf247 (cs:Array Value) (w:World):(ReflectliteValue.unpack (.iface 247 (.agg cs))).run Tryz.prog w=.ok (.agg #[.pointer (some ⟨5,247,none⟩),.pointer (some ⟨w.heap.size,0,none⟩),.int .u64 153]) (w.alloc (.cells cs 247)):=by kernel_rfl
theorem elemOf345 (w:World):(Rtype.elem? 345).run Tryz.prog w=.ok (some 247) w:=by kernel_rfl
theorem mk247 (p:Addr) (w:World):(ReflectliteValue.mk 247 p ReflectliteValue.flagAddr).run Tryz.prog w=.ok (.agg #[.pointer (some ⟨5,247,none⟩),.pointer (some p),.int .u64 409]) w:=by kernel_rfl
theorem parts247a (a:Addr) (w:World):(ReflectliteValue.parts (.agg #[.pointer (some ⟨5,247,none⟩),.pointer (some a),.int .u64 409])).run Tryz.prog w=.ok (some (247,a,409)) w:=by kernel_rfl
theorem parts247 (a:Addr) (w:World):(ReflectliteValue.parts (.agg #[.pointer (some ⟨5,247,none⟩),.pointer (some a),.int .u64 153])).run Tryz.prog w=.ok (some (247,a,153)) w:=by kernel_rfl
theorem direct247 (w:World):(Rtype.directlyAssignable 247 247).run Tryz.prog w=.ok true w:=by kernel_rfl
theorem size247 (w:World):(sizeOf 247).run Tryz.prog w=.ok 2 w:=by kernel_rfl
end Go.AS
namespace Go.AS
open Go Go.RowKit Go.Extern.Stop Go.Stop Go.Extern Go.Proofs
theorem rlm (z:Sem Value) (f:TypeId→Addr→Nat→Nat→Sem Value) (v:Value):ReflectliteValue.method z f #[v]=(do match ←ReflectliteValue.parts v with | none=>z | some (t,a,fl)=>f t a fl (fl % 32)):=rfl
theorem isNil345 (a p:Addr) (W:World) (ha:W.cell? a=some (.pointer (some p))):(ReflectliteValue.method (ReflectliteValue.valueError "reflectlite.Value.IsNil" 0) ReflectliteValue.isNil #[.agg #[.pointer (some ⟨5,345,none⟩),.pointer (some a),.int .u64 150]]).run Tryz.prog W=.ok (.bool false) W:=by
  rw[rlm]
  simp only[Sem.run_bind,parts345,Result.andThen]
  simp [ReflectliteValue.isNil,loadVar,isAgg,underlying,Tryz.underlying345,ha,Result.andThen]
theorem elemV345 (a p:Addr) (W:World) (ha:W.cell? a=some (.pointer (some p))):(ReflectliteValue.method (ReflectliteValue.valueError "reflectlite.Value.Elem" 0) ReflectliteValue.elem #[.agg #[.pointer (some ⟨5,345,none⟩),.pointer (some a),.int .u64 150]]).run Tryz.prog W=.ok (.agg #[.pointer (some ⟨5,247,none⟩),.pointer (some p),.int .u64 409]) W:=by
  rw[rlm]
  simp only[Sem.run_bind,parts345,Result.andThen]
  simp [ReflectliteValue.elem,loadVar,isAgg,underlying,Tryz.underlying345,ha,Result.andThen,elemOf345,mk247]
theorem rls (v x:Value):ReflectliteValue.set #[v,x]=(do
    let (some (dst,a,fl),some (src,b,_)):=(←ReflectliteValue.parts v,←ReflectliteValue.parts x)
      | unsupported (.noEntry "extern/(internal/reflectlite.Value).Set.zeroValue")
    if fl / ReflectliteValue.flagAddr % 2==0 then unsupported (.noEntry "extern/(internal/reflectlite.Value).Set.unaddressable")
    let val ←loadVar src b
    if ←Rtype.directlyAssignable dst src then storeVar dst a val
    else if ←Rtype.implements dst src then
      if (←Rtype.kind src)==20 then
        match val with
        | .nilIface=>unsupported (.noEntry "extern/reflectlite: a nil value of one interface type handed on as a value of another")
        | _=>storeVar dst a val
      else storeVar dst a (.iface src val)
    else panicString ("reflectlite.Set: value of type " ++ (←Rtype.spelt src) ++ " is not assignable to type " ++ (←Rtype.spelt dst))
    pure (.tuple #[])):=rfl
theorem set247 (t b:Addr) (val:Value) (W w':World) (hl:(loadVar 247 b).run Tryz.prog W=.ok val W) (hs:(storeVar 247 t val).run Tryz.prog W=.ok () w') :
    (ReflectliteValue.set #[.agg #[.pointer (some ⟨5,247,none⟩),.pointer (some t),.int .u64 409],.agg #[.pointer (some ⟨5,247,none⟩),.pointer (some b),.int .u64 153]]).run Tryz.prog W=.ok (.tuple #[]) w':=by
  rw[rls]
  simp only[Sem.run_bind,parts247a,parts247,Result.andThen]
  simp [ReflectliteValue.flagAddr,hl,hs,Result.andThen,direct247]
end Go.AS
set_option linter.unusedSimpArgs false
namespace Go.AS
open Go Go.RowKit Go.Extern.Stop Go.Stop Go.Extern Go.Proofs
theorem methodKind' (h:Value) (w:World):(Go.method 634 437 (.agg #[h]) "Kind").run Tryz.prog w=.ok (350,h) w:=by kernel_rfl
theorem methodElem' (h:Value) (w:World):(Go.method 634 437 (.agg #[h]) "Elem").run Tryz.prog w=.ok (364,.agg #[h]) w:=by kernel_rfl
theorem methodImplements' (h:Value) (w:World):(Go.method 634 437 (.agg #[h]) "Implements").run Tryz.prog w=.ok (365,.agg #[h]) w:=by kernel_rfl
theorem methodAssignableTo' (h:Value) (w:World):(Go.method 634 437 (.agg #[h]) "AssignableTo").run Tryz.prog w=.ok (362,.agg #[h]) w:=by kernel_rfl
theorem methodComparable' (h:Value) (w:World):(Go.method 634 437 (.agg #[h]) "Comparable").run Tryz.prog w=.ok (363,.agg #[h]) w:=by kernel_rfl
theorem load247new (w:World) (cs:Array Value) (h:cs.size=2):(loadVar 247 ⟨w.heap.size,0,none⟩).run Tryz.prog (w.alloc (.cells cs 247))=.ok (.agg cs) (w.alloc (.cells cs 247)):=by
  have hq:=run_loadCellsFrom_new (P:=Tryz.prog) w 247 cs 2 h
  simp only[loadVar,Sem.run_bind,isAgg,underlying]
  simp [Tryz.underlying247,Result.andThen,size247,loadCells,hq]
theorem store247 (t:Addr) (cs:Array Value) (h:cs.size=2) (W w':World) (hs:(storeCells t cs.toList).run Tryz.prog W=.ok () w'):(storeVar 247 t (.agg cs)).run Tryz.prog W=.ok () w':=by
  simp only[storeVar,Sem.run_bind]
  simp [size247,Result.andThen,Value.cells,h,hs]
set_option maxRecDepth 100000 in
set_option maxHeartbeats 4000000 in
theorem as_hit (t:Addr) (cs:Array Value) (w w':World) (hcs:cs.size=2) (hg:w.cell? ⟨2,0,none⟩=some (.iface 437 (.agg #[.pointer (some ⟨5,232,none⟩)])))
    (hst:(storeCells t cs.toList).run Tryz.prog ((((w.alloc (.cells #[.pointer (some t)] 345)).alloc (.cells #[.pointer (some ⟨5,345,none⟩),.pointer (some ⟨w.heap.size,0,none⟩),.int .u64 150] 393)).alloc (.cells #[.pointer (some ⟨5,345,none⟩),.pointer (some ⟨w.heap.size,0,none⟩),.int .u64 150] 393)).alloc (.cells cs 247))=.ok () w') :
    Calls Tryz.prog 209 #[.iface 247 (.agg cs),.iface 345 (.pointer (some t))] w fun ev v'=>ev=.returned (.bool true)∧v'=w':=by
  have h6:=@run_callFunc_extern Tryz.prog 253 _ (fun args=>ReflectliteValue.unpack (args.getD 0 (.tuple #[]))) Tryz.func253 (by kernel_rfl) (by kernel_rfl) (by kernel_rfl) (by kernel_rfl)
  have h7:=@run_callFunc_extern Tryz.prog 254 _ (ReflectliteValue.methodAny (ReflectliteValue.valueError "reflectlite.Value.Type" 0) (fun t _ _ _=>ReflectliteType.toType t)) Tryz.func254 (by kernel_rfl) (by kernel_rfl) (by kernel_rfl) (by kernel_rfl)
  have h8:=@run_callFunc_extern Tryz.prog 255 _ (ReflectliteValue.method (ReflectliteValue.valueError "reflectlite.Value.IsNil" 0) ReflectliteValue.isNil) Tryz.func255 (by kernel_rfl) (by kernel_rfl) (by kernel_rfl) (by kernel_rfl)
  have h27:=@run_callFunc_extern Tryz.prog 350 _ (ReflectliteType.abiMethod fun t=>do pure (.int .u8 (←Rtype.kind t))) Tryz.func350 (by kernel_rfl) (by kernel_rfl) (by kernel_rfl) (by kernel_rfl)
  have h37:=@run_callFunc_extern Tryz.prog 364 _ (ReflectliteType.method ReflectliteType.elem) Tryz.func364 (by kernel_rfl) (by kernel_rfl) (by kernel_rfl) (by kernel_rfl)
  have h38:=@run_callFunc_extern Tryz.prog 365 _ (ReflectliteType.relation "Implements" ReflectliteType.implements_) Tryz.func365 (by kernel_rfl) (by kernel_rfl) (by kernel_rfl) (by kernel_rfl)
  have h10:=@run_callFunc_extern Tryz.prog 257 _ ReflectliteType.typeOf Tryz.func257 (by kernel_rfl) (by kernel_rfl) (by kernel_rfl) (by kernel_rfl)
  have h35:=@run_callFunc_extern Tryz.prog 362 _ (ReflectliteType.relation "AssignableTo" ReflectliteType.assignableTo) Tryz.func362 (by kernel_rfl) (by kernel_rfl) (by kernel_rfl) (by kernel_rfl)
  have h11:=@run_callFunc_extern Tryz.prog 290 _ (ReflectliteValue.method (ReflectliteValue.valueError "reflectlite.Value.Elem" 0) ReflectliteValue.elem) Tryz.func290 (by kernel_rfl) (by kernel_rfl) (by kernel_rfl) (by kernel_rfl)
  have h12:=@run_callFunc_extern Tryz.prog 291 _ ReflectliteValue.set Tryz.func291 (by kernel_rfl) (by kernel_rfl) (by kernel_rfl) (by kernel_rfl)
  have tO:=typeOf247
  have mA:=methodAssignableTo
  have a25:=assignable247
  have v25:=valueOf247
  have f6:=valueOf345
  have f7:=type345
  have mK:=methodKind
  have mE:=methodElem
  have mI:=methodImplements
  have mA':=methodAssignableTo'
  have mK':=methodKind'
  have mE':=methodElem'
  have mI':=methodImplements'
  have k27:=kind345
  have k25:=kind247
  have e27:=elem345
  have i25:=implements247
  have n8:=isNil345 ⟨w.heap.size,0,none⟩ t ((w.alloc (.cells #[.pointer (some t)] 345)).alloc (.cells #[.pointer (some ⟨5,345,none⟩),.pointer (some ⟨w.heap.size,0,none⟩),.int .u64 150] 393)) (by simp)
  have hlt:2 < w.heap.size:=by
    rcases Nat.lt_or_ge 2 w.heap.size with h | h
    · exact h
    · simp [World.cell?,Array.getElem?_eq_none h] at hg
  have hg2:((w.alloc (.cells #[.pointer (some t)] 345)).alloc (.cells #[.pointer (some ⟨5,345,none⟩),.pointer (some ⟨w.heap.size,0,none⟩),.int .u64 150] 393)).cell? ⟨2,0,none⟩=some (.iface 437 (.agg #[.pointer (some ⟨5,232,none⟩)])):=by
    rw[World.cell?_alloc_lt _ _ ⟨2,0,none⟩ (by simp; omega),World.cell?_alloc_lt _ _ ⟨2,0,none⟩ hlt]; exact hg
  have el:=elemV345 ⟨w.heap.size,0,none⟩ t (((w.alloc (.cells #[.pointer (some t)] 345)).alloc (.cells #[.pointer (some ⟨5,345,none⟩),.pointer (some ⟨w.heap.size,0,none⟩),.int .u64 150] 393)).alloc (.cells #[.pointer (some ⟨5,345,none⟩),.pointer (some ⟨w.heap.size,0,none⟩),.int .u64 150] 393)) (by rw[World.cell?_alloc_lt _ _ ⟨w.heap.size,0,none⟩ (by simp; omega)]; simp)
  have st:=set247 t ⟨w.heap.size + 1 + 1 + 1,0,none⟩ (.agg cs) _ w'
    (by have := load247new (((w.alloc (.cells #[.pointer (some t)] 345)).alloc (.cells #[.pointer (some ⟨5, 345, none⟩), .pointer (some ⟨w.heap.size, 0, none⟩), .int .u64 150] 393)).alloc (.cells #[.pointer (some ⟨5, 345, none⟩), .pointer (some ⟨w.heap.size, 0, none⟩), .int .u64 150] 393)) cs hcs
        simpa using this)
    (store247 t cs hcs _ _ hst)
  go_enter Tryz.func209,Tryz.ntmps209
  go_wp2
  refine wp_loop_rounds 1 ?_
  rw[rounds_succ]
  go_wp2
  go_ret
  exact⟨rfl,rfl⟩
end Go.AS
namespace Go.K
open Go.Ab Go.RowKit Go.Y Go.Proofs
noncomputable section
variable [KGl]
def vErrT:V:=.ref true .sc (.fn (437 + 2147483649) (.cons (.cons (.fn (17179869184 + 5 * 1048576 + 232) (.cons .unk .nl)) .nl) .nl))
omit [KGl] in
theorem cell_errT {C:Ctx}(h:R C vErrT (.val (.pointer (some ⟨2,0,none⟩)))):C.w.cell? ⟨2,0,none⟩=some (.iface 437 (.agg #[.pointer (some ⟨5,232,none⟩)])):=by
  obtain⟨b,o,h1,_,cs,h3,h4,_⟩:=h
  cases h1
  obtain⟨z,h5,h6⟩:=cs.v_if (ifLt 437)
  rw[h6] at h4
  obtain⟨x,xs,hx,⟨ds,a,b2,h7,h8,⟨ds1,h9,_,_⟩,h10⟩,hxs⟩:=h4
  cases hx
  obtain rfl:b2=.nl:=h10
  obtain⟨h11,h12⟩:=h9
  obtain⟨_,h13⟩:=h3
  have e1:cs.vw C.pur.w=.iface 437 z:=by rw[cs.vw_lt (by decide),h5]
  have e2:ds1.vw C.pur.w=.pointer (some ⟨5,232,none⟩):=by rw[ds1.vw_ptr (by decide)]
  rw[e1] at h13
  rw[e2] at h12
  have hz:z=.agg #[.pointer (some ⟨5,232,none⟩)]:=by
    rw[h7]; congr 1
    subst h11
    apply Array.ext
    · simpa [Shape.size] using h8
    · intro i hi1 hi2
      have:i=0:=by simp at hi2; omega
      subst this
      have:=Array.getElem?_eq_getElem hi1
      have h12:ds[0]?=some (.pointer (some ⟨5,232,none⟩)):=h12
      rw[this] at h12
      simpa using h12
  rw[hz] at h13
  exact h13
theorem as209 (hg:Gl.G 2=vErrT):AsOk Tryz.prog 209 247 345:=by
  refine asOk_of ⟨_,Tryz.func209,by kernel_rfl,by kernel_rfl⟩ (by decide) (by decide) fun C val b d hgl hsz hst=>?_
  have hc:=cell_errT (hg▸hgl 2)
  have hs:(tshape Tryz.prog 247).map (·.size)=some 2:=by kernel_rfl
  obtain⟨s,hs,h2⟩:=Option.map_eq_some_iff.1 hs
  have hz:=(hsz s hs).trans h2
  obtain⟨cs,rfl⟩:∃ cs,val=.agg cs:=by
    cases val<;>first | exact⟨_,rfl⟩ | (simp [Value.cells] at hz)
  obtain⟨w',hw'⟩:=hst _ ((((Below.refl C.w.heap.size C.w).alloc (Nat.le_refl _) (.cells #[.pointer (some ⟨b,d,none⟩)] 345)).alloc (by simp) (.cells #[.pointer (some ⟨5,345,none⟩),.pointer (some ⟨C.w.heap.size,0,none⟩),.int .u64 150] 393)).alloc (by simp; omega) (.cells #[.pointer (some ⟨5,345,none⟩),.pointer (some ⟨C.w.heap.size,0,none⟩),.int .u64 150] 393) |>.alloc (by simp; omega) (.cells cs 247))
  refine (Go.AS.as_hit ⟨b,d,none⟩ cs C.w w' hz hc hw').mono ?_
  rintro e v' ⟨rfl,rfl⟩
  exact⟨rfl,_,((((Below.refl C.w.heap.size C.w).alloc (Nat.le_refl _) _).alloc (by simp) _).alloc (by simp; omega) _).alloc (by simp; omega) _,hw'⟩
end
end Go.K
namespace Go.AS
open Go Go.RowKit Go.Extern.Stop Go.Stop Go.Extern Go.Proofs
theorem eqNil (a:Addr) (w:World):(binOp .eql 232 .nilIface (.iface 503 (.pointer (some a)))).run Tryz.prog w=.ok (.bool false) w:=by kernel_rfl
set_option maxRecDepth 100000 in
theorem is_nil (a:Addr) (w:World):Calls Tryz.prog 210 #[.nilIface,.iface 503 (.pointer (some a))] w fun e w'=>e=.returned (.bool false)∧w'=w:=by
  have eqN:=eqNil a
  go_enter Tryz.func210,Tryz.ntmps210
  go_wp2
  go_ret
  exact⟨rfl,rfl⟩
theorem comparable503 (w:World):(ReflectliteType.method (fun t=>do Rtype.noPackHeld "Comparable" t; (fun a=>Value.bool a.comparable) <$> typeInfo t) #[.agg #[.pointer (some ⟨5,503,none⟩)]]).run Tryz.prog w=.ok (.bool true) w:=by kernel_rfl
theorem eqSelf (a:Addr) (w:World):(binOp .eql 232 (.iface 503 (.pointer (some a))) (.iface 503 (.pointer (some a)))).run Tryz.prog w=.ok (.bool true) w:=by
  have h:(Tryz.prog.info? 503).map (·.comparable)=some true:=by kernel_rfl
  obtain⟨i,hi,hc⟩:=Option.map_eq_some_iff.1 h
  have hE:(Tryz.prog.underlying 503).bind (fun d=>match d with | .pointer e=>(Tryz.prog.info? e).map (fun _=>()) | _=>none)=some ():=by kernel_rfl
  obtain⟨d,hd,h2⟩:=Option.bind_eq_some_iff.1 hE
  cases d<;>simp at h2
  obtain⟨j,hj⟩:=h2
  exact run_eql_iface_ptr_same _ a Tryz.underlying232 hd hi hc hj
set_option maxRecDepth 100000 in
set_option maxHeartbeats 4000000 in
theorem is_hit (a:Addr) (w:World):Calls Tryz.prog 210 #[.iface 503 (.pointer (some a)),.iface 503 (.pointer (some a))] w fun e w'=>e=.returned (.bool true)∧w'=w:=by
  have h10:=@run_callFunc_extern Tryz.prog 257 _ ReflectliteType.typeOf Tryz.func257 (by kernel_rfl) (by kernel_rfl) (by kernel_rfl) (by kernel_rfl)
  have h35:=@run_callFunc_extern Tryz.prog 363 _ (ReflectliteType.method (fun t=>do Rtype.noPackHeld "Comparable" t; pure (.bool (←typeInfo t).comparable))) Tryz.func363 (by kernel_rfl) (by kernel_rfl) (by kernel_rfl) (by kernel_rfl)
  have tO:=typeOf503
  have mA:=methodComparable
  have mA':=methodComparable'
  have a25:=comparable503
  have eqS:=eqSelf a
  go_enter Tryz.func210,Tryz.ntmps210
  go_wp2
  refine wp_loop_rounds 1 ?_
  rw[rounds_succ]
  go_wp2
  go_ret
  exact⟨rfl,rfl⟩
end Go.AS
namespace Go.AS
open Go Go.RowKit Go.Extern.Stop Go.Stop Go.Extern Go.Proofs
theorem noIs (v:Value) (xT:TypeId) (w:World):(Instr.typeAssert (.iface 247 v) xT 448 true).run Tryz.prog w=.ok (.tuple #[.nilIface,.bool false]) w:=run_typeAssert_lacksB Tryz.underlying448 (by kernel_rfl) (by kernel_rfl) v xT w
theorem hasUnwrap (v:Value) (xT:TypeId) (w:World):(Instr.typeAssert (.iface 247 v) xT 444 true).run Tryz.prog w=.ok (.tuple #[.iface 247 v,.bool true]) w:=run_typeAssert_hasB Tryz.underlying444 (by kernel_rfl) v xT w
theorem eqRef (v:Value) (a:Addr) (w:World):(binOp .eql 232 (.iface 247 v) (.iface 503 (.pointer (some a)))).run Tryz.prog w=.ok (.bool false) w:=by kernel_rfl
theorem eqRefNil (v:Value) (w:World):(binOp .eql 232 (.iface 247 v) .nilIface).run Tryz.prog w=.ok (.bool false) w:=by kernel_rfl
theorem eqErrNil (v:Value) (w:World):(binOp .eql 232 (.iface 503 v) .nilIface).run Tryz.prog w=.ok (.bool false) w:=by kernel_rfl
theorem eqNilNil (w:World):(binOp .eql 232 .nilIface .nilIface).run Tryz.prog w=.ok (.bool true) w:=by kernel_rfl
theorem methodUnwrap (h:Value) (w:World):(Go.method 634 247 h "Unwrap").run Tryz.prog w=.ok (356,h) w:=by kernel_rfl
theorem cause_ld (e c:Value) (w:World):((w.alloc (.cells #[e,c] 247)).cell? ⟨w.heap.size,1,none⟩)=some c:=by simp
set_option maxRecDepth 100000 in
set_option maxHeartbeats 4000000 in
theorem unwrap (e c:Value) (w:World):Calls Tryz.prog 356 #[.agg #[e,c]] w fun ev w'=>ev=.returned c∧w'=w.alloc (.cells #[e,c] 247):=by
  go_enter Tryz.func356,Tryz.ntmps356
  go_wp2
  go_ret
  exact⟨rfl,rfl⟩
set_option maxRecDepth 100000 in
set_option maxHeartbeats 4000000 in
theorem isN (e:Value) (a:Addr) (w:World):Calls Tryz.prog 258 #[.iface 247 (.agg #[e,.nilIface]),.iface 503 (.pointer (some a)),.bool true] w fun ev w'=>ev=.returned (.bool false)∧w'=w.alloc (.cells #[e,.nilIface] 247):=by
  have eqS:=eqSelf a
  have q1:=eqRef
  have q2:=eqRefNil
  have q3:=eqErrNil
  have q4:=eqNilNil
  have q5:=noIs
  have q6:=hasUnwrap
  have q7:=methodUnwrap
  go_enter Tryz.func258,Tryz.ntmps258
  go_wp2
  refine wp_loop_rounds 1 ?_
  rw[rounds_succ]
  go_wp2_with (go_at_call 356; refine (unwrap _ _ _).mono ?_; rintro e w' ⟨rfl,rfl⟩)
  go_ret
  exact⟨rfl,rfl⟩
set_option maxRecDepth 100000 in
set_option maxHeartbeats 4000000 in
theorem isH (e:Value) (a:Addr) (w:World):Calls Tryz.prog 258 #[.iface 247 (.agg #[e,.iface 503 (.pointer (some a))]),.iface 503 (.pointer (some a)),.bool true] w fun ev w'=>ev=.returned (.bool true)∧w'=w.alloc (.cells #[e,.iface 503 (.pointer (some a))] 247):=by
  have eqS:=eqSelf a
  have q1:=eqRef
  have q2:=eqRefNil
  have q3:=eqErrNil
  have q4:=eqNilNil
  have q5:=noIs
  have q6:=hasUnwrap
  have q7:=methodUnwrap
  go_enter Tryz.func258,Tryz.ntmps258
  go_wp2
  refine wp_loop_rounds 2 ?_
  rw[rounds_succ]
  go_wp2_with (go_at_call 356; refine (unwrap _ _ _).mono ?_; rintro e w' ⟨rfl,rfl⟩)
  rw[rounds_succ]
  go_wp2
  go_ret
  exact⟨rfl,rfl⟩
set_option maxRecDepth 100000 in
set_option maxHeartbeats 4000000 in
theorem is_refN (e:Value) (a:Addr) (w:World):Calls Tryz.prog 210 #[.iface 247 (.agg #[e,.nilIface]),.iface 503 (.pointer (some a))] w fun ev w'=>ev=.returned (.bool false)∧w'=w.alloc (.cells #[e,.nilIface] 247):=by
  have h10:=@run_callFunc_extern Tryz.prog 257 _ ReflectliteType.typeOf Tryz.func257 (by kernel_rfl) (by kernel_rfl) (by kernel_rfl) (by kernel_rfl)
  have h35:=@run_callFunc_extern Tryz.prog 363 _ (ReflectliteType.method (fun t=>do Rtype.noPackHeld "Comparable" t; pure (.bool (←typeInfo t).comparable))) Tryz.func363 (by kernel_rfl) (by kernel_rfl) (by kernel_rfl) (by kernel_rfl)
  have tO:=typeOf503
  have mA:=methodComparable
  have mA':=methodComparable'
  have a25:=comparable503
  have q2:=eqRefNil
  have q3:=eqErrNil
  go_enter Tryz.func210,Tryz.ntmps210
  go_wp2_with (go_at_call 258; refine (isN _ _ _).mono ?_; rintro e w' ⟨rfl,rfl⟩)
  go_ret
  exact⟨rfl,rfl⟩
set_option maxRecDepth 100000 in
set_option maxHeartbeats 4000000 in
theorem is_refH (e:Value) (a:Addr) (w:World):Calls Tryz.prog 210 #[.iface 247 (.agg #[e,.iface 503 (.pointer (some a))]),.iface 503 (.pointer (some a))] w fun ev w'=>ev=.returned (.bool true)∧w'=w.alloc (.cells #[e,.iface 503 (.pointer (some a))] 247):=by
  have h10:=@run_callFunc_extern Tryz.prog 257 _ ReflectliteType.typeOf Tryz.func257 (by kernel_rfl) (by kernel_rfl) (by kernel_rfl) (by kernel_rfl)
  have h35:=@run_callFunc_extern Tryz.prog 363 _ (ReflectliteType.method (fun t=>do Rtype.noPackHeld "Comparable" t; pure (.bool (←typeInfo t).comparable))) Tryz.func363 (by kernel_rfl) (by kernel_rfl) (by kernel_rfl) (by kernel_rfl)
  have tO:=typeOf503
  have mA:=methodComparable
  have mA':=methodComparable'
  have a25:=comparable503
  have q2:=eqRefNil
  have q3:=eqErrNil
  go_enter Tryz.func210,Tryz.ntmps210
  go_wp2_with (go_at_call 258; refine (isH _ _ _).mono ?_; rintro e w' ⟨rfl,rfl⟩)
  go_ret
  exact⟨rfl,rfl⟩
end Go.AS
