/- Fresh volumes: what is handed back for each number of blocks. No condition. Fresh volumes of at most 90 blocks: digests, nodes: closed runs. No condition. -/
import Derived.Test.YtfpmealbbibhpaaGreatDoorFGD
import Derived.Test.YtfpmealbbibhpaaGreatDoorLO1
set_option linter.unusedVariables false
set_option linter.unusedSimpArgs false
namespace Go.K
open Go.Ab Go.RowKit Go.Y Go.Proofs
noncomputable section
def treeT (x : KV) (n : Nat) : KV := @Nat.rec (fun _ => KV) .te (fun i t => kset x (enc i) t) n
def bsel {α : Type} (b : Bool) (x y : α) : α := @Bool.rec (fun _ => α) y x b
def hgtF (n : Nat) : Nat := bsel (Nat.ble n 4) 0 (bsel (Nat.ble n 16) 1 (bsel (Nat.ble n 64) 2 (bsel (Nat.ble n 256) 3 (bsel (Nat.ble n 1024) 4 5))))
def dgF (h : Nat) : Nat := @Nat.rec (fun _ => Nat) 49335936114469730489519566754954389822356494958623753279784912804745734766010 (fun h _ => @Nat.rec (fun _ => Nat) 57061694406932542387411442672345176105610110515719100098405207664887830735945 (fun h _ => @Nat.rec (fun _ => Nat) 115399759593875984660863525549135131536212492063992582793881239684100504995277 (fun h _ => @Nat.rec (fun _ => Nat) 19155112976345961927020129796986997122588542454472646389207807238203496809070 (fun h _ => @Nat.rec (fun _ => Nat) 2750193487068888407971171642820689359829264340758926027409414343729839424277 (fun h _ => 22390878873875203406293031918557694199530038491721336108715618296122088841782) h) h) h) h) h
def ckF (n : Nat) : Nat := (C.sec n + 63) / 64
def lenF (h : Nat) : Nat := @Nat.rec (fun _ => Nat) 185 (fun _ _ => 137) h
def chE : KV := .ref true (.arr 64 .sc) (.ar 64 .nilp .te)
def verF (h : Nat) : KV := .ref true (.cons .sc (.cons .sc (.cons .sc (.cons .sc .nl)))) (.cons (.bool true) (.cons (.ro true false .sc 0 (lenF h) (.pk .u8 (lenF h) h)) (.cons (.int .i64 (.ofNat 1)) (.cons .nilp .nl))))
def chF (h q : Nat) : KV := .ref true (.arr 64 .sc) (.ar 64 .nilp (kset (verF h) (enc (q % 64)) .te))
def arF (n : Nat) : KV := .ar (ckF n) .nilp (kset (chF (hgtF n) (C.sec n - 2)) (enc ((C.sec n - 2) / 64)) (treeT chE (ckF n)))
def dskF (n : Nat) : KV := .cons (.int .i64 (.ofNat (C.sec n))) (.cons (.int .i64 (.ofNat 1)) (.cons (.ro true true .sc 0 (ckF n) (arF n)) .nl))
def celF (n : Nat) : KV := .cons (.pk .u8 32 (dgF (hgtF n))) (.cons (.int .u64 (.ofNat 0)) (.cons (.int .u64 (.ofNat 0)) .nl))
def frF (n : Nat) : KV := .tup (.cons (dskF n) (.cons (celF n) (.cons (.int .i64 (.ofNat 0)) .nl)))
theorem KCS.of [KGl] {P : Program} {fid : FuncId} {s s' : KSpec} (h : KCS P fid s) (hi : ∀ l K, s' l K → s l K) : KCS P fid s' := ⟨h.1, fun l K hs => h.2 l K (hi l K hs)⟩
def s89c : KSpec := fun l K => la1 l fun x => natK x fun n => chk (nd (Nat.ble 1 n) (Nat.ble n 4096)) 350 (K (.tup (.cons (.int .i64 (.ofNat (C.sec n))) (.cons (.int .i64 (.ofNat 0)) .nl))))
theorem kcs89c : KCS Tryz.prog 89 s89c := (kcs89g.cls).of fun l K hs => by
  obtain ⟨x, rfl, h1⟩ := la1_s hs
  obtain ⟨n, rfl, h2⟩ := natK_s h1
  obtain ⟨h3, h4⟩ := chk_inv h2
  obtain ⟨h5, h6⟩ := nd_iff.1 h3
  exact ⟨⟨Nat.le_of_ble_eq_true h5, Nat.le_of_ble_eq_true h6⟩, h4⟩
def EF : KEnv := E0.tab [(163, sMem tab163), (92, sMem tab92), (89, s89c)]
theorem okF : KOk EF := ok0.tab ⟨kcsT163, kcsT92, kcs89c, trivial⟩
def q20 (n : Nat) : Prop := callR EF (krun EF 1000) 0 20 [.int .i64 (.ofNat n)] .e 0 0 fun r zm _ _ => tK (fzB zm 60 r (frF n))
def AllR (P : Nat → Prop) (a m : Nat) : Prop := @Nat.rec (fun _ => Prop) True (fun i ih => P (a + i) ∧ ih) m
theorem allR_true (a : Nat) : ∀ m, AllR (fun _ => True) a m
  | 0 => trivial
  | m + 1 => ⟨trivial, allR_true a m⟩
theorem allR_of {P : Nat → Prop} {a : Nat} : ∀ {m : Nat}, AllR P a m → ∀ {n : Nat}, a ≤ n → n < a + m → P n
  | 0, _, n, h1, h2 => absurd h1 (by omega)
  | m + 1, h, n, h1, h2 => by
    by_cases he : n = a + m
    · subst he; exact (show P (a + m) ∧ AllR P a m from h).1
    · exact allR_of (show P (a + m) ∧ AllR P a m from h).2 h1 (by omega)
end
end Go.K
set_option maxRecDepth 10000
namespace Go.K
open Go.Ab Go.RowKit Go.Y Go.Proofs
noncomputable section
attribute [local irreducible] krun callR
def a137_0 : List KV := [(.cons (.int .u8 (.ofNat 0)) (.cons (.int .u32 (.ofNat 0)) (.cons (.ar 4 (.cons (.int .u8 (.ofNat 0)) (.cons (.cons (.int .u32 (.ofNat 0)) (.cons (.int .u64 (.ofNat 0)) .nl)) (.cons (.pk .u8 32 0) .nl))) .te) (.cons (.ar 4 (.cons (.int .u8 (.ofNat 0)) (.cons (.pk .u8 32 0) .nl)) .te) .nl))))]
def r137_0 : KV := (.pk .u8 32 49335936114469730489519566754954389822356494958623753279784912804745734766010)
theorem m137_0 : Rn E1 137 a137_0 r137_0 := of_eq_true (by kernel_rfl)
theorem c137_0 : KCS Tryz.prog 137 (kcon a137_0 r137_0) := kconR ok1 m137_0
def a137_1 : List KV := [(.cons (.int .u8 (.ofNat 1)) (.cons (.int .u32 (.ofNat 0)) (.cons (.ar 4 (.cons (.int .u8 (.ofNat 0)) (.cons (.cons (.int .u32 (.ofNat 0)) (.cons (.int .u64 (.ofNat 0)) .nl)) (.cons (.pk .u8 32 0) .nl))) .te) (.cons (.ar 4 (.cons (.int .u8 (.ofNat 0)) (.cons (.pk .u8 32 0) .nl)) .te) .nl))))]
def r137_1 : KV := (.pk .u8 32 57061694406932542387411442672345176105610110515719100098405207664887830735945)
theorem m137_1 : Rn E1 137 a137_1 r137_1 := of_eq_true (by kernel_rfl)
theorem c137_1 : KCS Tryz.prog 137 (kcon a137_1 r137_1) := kconR ok1 m137_1
def a137_2 : List KV := [(.cons (.int .u8 (.ofNat 2)) (.cons (.int .u32 (.ofNat 0)) (.cons (.ar 4 (.cons (.int .u8 (.ofNat 0)) (.cons (.cons (.int .u32 (.ofNat 0)) (.cons (.int .u64 (.ofNat 0)) .nl)) (.cons (.pk .u8 32 0) .nl))) .te) (.cons (.ar 4 (.cons (.int .u8 (.ofNat 0)) (.cons (.pk .u8 32 0) .nl)) .te) .nl))))]
def r137_2 : KV := (.pk .u8 32 115399759593875984660863525549135131536212492063992582793881239684100504995277)
theorem m137_2 : Rn E1 137 a137_2 r137_2 := of_eq_true (by kernel_rfl)
theorem c137_2 : KCS Tryz.prog 137 (kcon a137_2 r137_2) := kconR ok1 m137_2
def a137_3 : List KV := [(.cons (.int .u8 (.ofNat 3)) (.cons (.int .u32 (.ofNat 0)) (.cons (.ar 4 (.cons (.int .u8 (.ofNat 0)) (.cons (.cons (.int .u32 (.ofNat 0)) (.cons (.int .u64 (.ofNat 0)) .nl)) (.cons (.pk .u8 32 0) .nl))) .te) (.cons (.ar 4 (.cons (.int .u8 (.ofNat 0)) (.cons (.pk .u8 32 0) .nl)) .te) .nl))))]
def r137_3 : KV := (.pk .u8 32 19155112976345961927020129796986997122588542454472646389207807238203496809070)
theorem m137_3 : Rn E1 137 a137_3 r137_3 := of_eq_true (by kernel_rfl)
theorem c137_3 : KCS Tryz.prog 137 (kcon a137_3 r137_3) := kconR ok1 m137_3
def ab163_0 : List KV := [(.cons (.int .u8 (.ofNat 0)) (.cons (.int .u32 (.ofNat 0)) (.cons (.ar 4 (.cons (.int .u8 (.ofNat 0)) (.cons (.cons (.int .u32 (.ofNat 0)) (.cons (.int .u64 (.ofNat 0)) .nl)) (.cons (.pk .u8 32 0) .nl))) (.tn (.cons (.int .u8 (.ofNat 0)) (.cons (.cons (.int .u32 (.ofNat 0)) (.cons (.int .u64 (.ofNat 0)) .nl)) (.cons (.pk .u8 32 0) .nl))) (.tn (.cons (.int .u8 (.ofNat 0)) (.cons (.cons (.int .u32 (.ofNat 0)) (.cons (.int .u64 (.ofNat 0)) .nl)) (.cons (.pk .u8 32 0) .nl))) .te .te .te .te) (.tn (.cons (.int .u8 (.ofNat 0)) (.cons (.cons (.int .u32 (.ofNat 0)) (.cons (.int .u64 (.ofNat 0)) .nl)) (.cons (.pk .u8 32 0) .nl))) .te .te .te .te) (.tn (.cons (.int .u8 (.ofNat 0)) (.cons (.cons (.int .u32 (.ofNat 0)) (.cons (.int .u64 (.ofNat 0)) .nl)) (.cons (.pk .u8 32 0) .nl))) .te .te .te .te) .te)) (.cons (.ar 4 (.cons (.int .u8 (.ofNat 0)) (.cons (.pk .u8 32 0) .nl)) .te) .nl))))]
def rb163_0 : KV := (.tup (.cons (.pk .u8 32 49335936114469730489519566754954389822356494958623753279784912804745734766010) (.cons (.int .i64 (.ofNat 0)) .nl)))
theorem mb163_0 : Rn E1 163 ab163_0 rb163_0 := of_eq_true (by kernel_rfl)
theorem cb163_0 : KCS Tryz.prog 163 (kcon ab163_0 rb163_0) := kconR ok1 mb163_0
def ab163_1 : List KV := [(.cons (.int .u8 (.ofNat 1)) (.cons (.int .u32 (.ofNat 0)) (.cons (.ar 4 (.cons (.int .u8 (.ofNat 0)) (.cons (.cons (.int .u32 (.ofNat 0)) (.cons (.int .u64 (.ofNat 0)) .nl)) (.cons (.pk .u8 32 0) .nl))) .te) (.cons (.ar 4 (.cons (.int .u8 (.ofNat 0)) (.cons (.pk .u8 32 0) .nl)) (.tn (.cons (.int .u8 (.ofNat 0)) (.cons (.pk .u8 32 0) .nl)) (.tn (.cons (.int .u8 (.ofNat 0)) (.cons (.pk .u8 32 0) .nl)) .te .te .te .te) (.tn (.cons (.int .u8 (.ofNat 0)) (.cons (.pk .u8 32 0) .nl)) .te .te .te .te) (.tn (.cons (.int .u8 (.ofNat 0)) (.cons (.pk .u8 32 0) .nl)) .te .te .te .te) .te)) .nl))))]
def rb163_1 : KV := (.tup (.cons (.pk .u8 32 57061694406932542387411442672345176105610110515719100098405207664887830735945) (.cons (.int .i64 (.ofNat 0)) .nl)))
theorem mb163_1 : Rn E1 163 ab163_1 rb163_1 := of_eq_true (by kernel_rfl)
theorem cb163_1 : KCS Tryz.prog 163 (kcon ab163_1 rb163_1) := kconR ok1 mb163_1
def ab163_2 : List KV := [(.cons (.int .u8 (.ofNat 2)) (.cons (.int .u32 (.ofNat 0)) (.cons (.ar 4 (.cons (.int .u8 (.ofNat 0)) (.cons (.cons (.int .u32 (.ofNat 0)) (.cons (.int .u64 (.ofNat 0)) .nl)) (.cons (.pk .u8 32 0) .nl))) .te) (.cons (.ar 4 (.cons (.int .u8 (.ofNat 0)) (.cons (.pk .u8 32 0) .nl)) (.tn (.cons (.int .u8 (.ofNat 0)) (.cons (.pk .u8 32 0) .nl)) (.tn (.cons (.int .u8 (.ofNat 0)) (.cons (.pk .u8 32 0) .nl)) .te .te .te .te) (.tn (.cons (.int .u8 (.ofNat 0)) (.cons (.pk .u8 32 0) .nl)) .te .te .te .te) (.tn (.cons (.int .u8 (.ofNat 0)) (.cons (.pk .u8 32 0) .nl)) .te .te .te .te) .te)) .nl))))]
def rb163_2 : KV := (.tup (.cons (.pk .u8 32 115399759593875984660863525549135131536212492063992582793881239684100504995277) (.cons (.int .i64 (.ofNat 0)) .nl)))
theorem mb163_2 : Rn E1 163 ab163_2 rb163_2 := of_eq_true (by kernel_rfl)
theorem cb163_2 : KCS Tryz.prog 163 (kcon ab163_2 rb163_2) := kconR ok1 mb163_2
def ab163_3 : List KV := [(.cons (.int .u8 (.ofNat 3)) (.cons (.int .u32 (.ofNat 0)) (.cons (.ar 4 (.cons (.int .u8 (.ofNat 0)) (.cons (.cons (.int .u32 (.ofNat 0)) (.cons (.int .u64 (.ofNat 0)) .nl)) (.cons (.pk .u8 32 0) .nl))) .te) (.cons (.ar 4 (.cons (.int .u8 (.ofNat 0)) (.cons (.pk .u8 32 0) .nl)) (.tn (.cons (.int .u8 (.ofNat 0)) (.cons (.pk .u8 32 0) .nl)) (.tn (.cons (.int .u8 (.ofNat 0)) (.cons (.pk .u8 32 0) .nl)) .te .te .te .te) (.tn (.cons (.int .u8 (.ofNat 0)) (.cons (.pk .u8 32 0) .nl)) .te .te .te .te) (.tn (.cons (.int .u8 (.ofNat 0)) (.cons (.pk .u8 32 0) .nl)) .te .te .te .te) .te)) .nl))))]
def rb163_3 : KV := (.tup (.cons (.pk .u8 32 19155112976345961927020129796986997122588542454472646389207807238203496809070) (.cons (.int .i64 (.ofNat 0)) .nl)))
theorem mb163_3 : Rn E1 163 ab163_3 rb163_3 := of_eq_true (by kernel_rfl)
theorem cb163_3 : KCS Tryz.prog 163 (kcon ab163_3 rb163_3) := kconR ok1 mb163_3
def a282_0 : List KV := [(.ro false true .sc 0 137 (.pk .u8 137 1))]
def r282_0 : KV := (.tup (.cons (.cons (.int .u8 (.ofNat 1)) (.cons (.int .u32 (.ofNat 0)) (.cons (.ar 4 (.cons (.int .u8 (.ofNat 0)) (.cons (.cons (.int .u32 (.ofNat 0)) (.cons (.int .u64 (.ofNat 0)) .nl)) (.cons (.pk .u8 32 0) .nl))) .te) (.cons (.ar 4 (.cons (.int .u8 (.ofNat 0)) (.cons (.pk .u8 32 0) .nl)) (.tn (.cons (.int .u8 (.ofNat 0)) (.cons (.pk .u8 32 0) .nl)) (.tn (.cons (.int .u8 (.ofNat 0)) (.cons (.pk .u8 32 0) .nl)) .te .te .te .te) (.tn (.cons (.int .u8 (.ofNat 0)) (.cons (.pk .u8 32 0) .nl)) .te .te .te .te) (.tn (.cons (.int .u8 (.ofNat 0)) (.cons (.pk .u8 32 0) .nl)) .te .te .te .te) .te)) .nl)))) (.cons (.int .i64 (.ofNat 0)) .nl)))
theorem m282_0 : Rn E1 282 a282_0 r282_0 := of_eq_true (by kernel_rfl)
theorem c282_0 : KCS Tryz.prog 282 (kcon a282_0 r282_0) := kconR ok1 m282_0
def a282_1 : List KV := [(.ro false true .sc 0 137 (.pk .u8 137 2))]
def r282_1 : KV := (.tup (.cons (.cons (.int .u8 (.ofNat 2)) (.cons (.int .u32 (.ofNat 0)) (.cons (.ar 4 (.cons (.int .u8 (.ofNat 0)) (.cons (.cons (.int .u32 (.ofNat 0)) (.cons (.int .u64 (.ofNat 0)) .nl)) (.cons (.pk .u8 32 0) .nl))) .te) (.cons (.ar 4 (.cons (.int .u8 (.ofNat 0)) (.cons (.pk .u8 32 0) .nl)) (.tn (.cons (.int .u8 (.ofNat 0)) (.cons (.pk .u8 32 0) .nl)) (.tn (.cons (.int .u8 (.ofNat 0)) (.cons (.pk .u8 32 0) .nl)) .te .te .te .te) (.tn (.cons (.int .u8 (.ofNat 0)) (.cons (.pk .u8 32 0) .nl)) .te .te .te .te) (.tn (.cons (.int .u8 (.ofNat 0)) (.cons (.pk .u8 32 0) .nl)) .te .te .te .te) .te)) .nl)))) (.cons (.int .i64 (.ofNat 0)) .nl)))
theorem m282_1 : Rn E1 282 a282_1 r282_1 := of_eq_true (by kernel_rfl)
theorem c282_1 : KCS Tryz.prog 282 (kcon a282_1 r282_1) := kconR ok1 m282_1
def a282_2 : List KV := [(.ro false true .sc 0 137 (.pk .u8 137 3))]
def r282_2 : KV := (.tup (.cons (.cons (.int .u8 (.ofNat 3)) (.cons (.int .u32 (.ofNat 0)) (.cons (.ar 4 (.cons (.int .u8 (.ofNat 0)) (.cons (.cons (.int .u32 (.ofNat 0)) (.cons (.int .u64 (.ofNat 0)) .nl)) (.cons (.pk .u8 32 0) .nl))) .te) (.cons (.ar 4 (.cons (.int .u8 (.ofNat 0)) (.cons (.pk .u8 32 0) .nl)) (.tn (.cons (.int .u8 (.ofNat 0)) (.cons (.pk .u8 32 0) .nl)) (.tn (.cons (.int .u8 (.ofNat 0)) (.cons (.pk .u8 32 0) .nl)) .te .te .te .te) (.tn (.cons (.int .u8 (.ofNat 0)) (.cons (.pk .u8 32 0) .nl)) .te .te .te .te) (.tn (.cons (.int .u8 (.ofNat 0)) (.cons (.pk .u8 32 0) .nl)) .te .te .te .te) .te)) .nl)))) (.cons (.int .i64 (.ofNat 0)) .nl)))
theorem m282_2 : Rn E1 282 a282_2 r282_2 := of_eq_true (by kernel_rfl)
theorem c282_2 : KCS Tryz.prog 282 (kcon a282_2 r282_2) := kconR ok1 m282_2
def a282_3 : List KV := [(.ro false true .sc 0 185 (.pk .u8 185 0))]
def r282_3 : KV := (.tup (.cons (.cons (.int .u8 (.ofNat 0)) (.cons (.int .u32 (.ofNat 0)) (.cons (.ar 4 (.cons (.int .u8 (.ofNat 0)) (.cons (.cons (.int .u32 (.ofNat 0)) (.cons (.int .u64 (.ofNat 0)) .nl)) (.cons (.pk .u8 32 0) .nl))) (.tn (.cons (.int .u8 (.ofNat 0)) (.cons (.cons (.int .u32 (.ofNat 0)) (.cons (.int .u64 (.ofNat 0)) .nl)) (.cons (.pk .u8 32 0) .nl))) (.tn (.cons (.int .u8 (.ofNat 0)) (.cons (.cons (.int .u32 (.ofNat 0)) (.cons (.int .u64 (.ofNat 0)) .nl)) (.cons (.pk .u8 32 0) .nl))) .te .te .te .te) (.tn (.cons (.int .u8 (.ofNat 0)) (.cons (.cons (.int .u32 (.ofNat 0)) (.cons (.int .u64 (.ofNat 0)) .nl)) (.cons (.pk .u8 32 0) .nl))) .te .te .te .te) (.tn (.cons (.int .u8 (.ofNat 0)) (.cons (.cons (.int .u32 (.ofNat 0)) (.cons (.int .u64 (.ofNat 0)) .nl)) (.cons (.pk .u8 32 0) .nl))) .te .te .te .te) .te)) (.cons (.ar 4 (.cons (.int .u8 (.ofNat 0)) (.cons (.pk .u8 32 0) .nl)) .te) .nl)))) (.cons (.int .i64 (.ofNat 0)) .nl)))
theorem m282_3 : Rn E1 282 a282_3 r282_3 := of_eq_true (by kernel_rfl)
theorem c282_3 : KCS Tryz.prog 282 (kcon a282_3 r282_3) := kconR ok1 m282_3
def tab137 : List (List KV × KV) := [(a137_0, r137_0), (a137_1, r137_1), (a137_2, r137_2), (a137_3, r137_3)]
theorem PM137 : ∃ fn, Tryz.prog.funcs[137]? = some fn ∧ (fn.name == "runtime.NumGoroutine") = false ∧ fn.body.isNone = false := ⟨Tryz.f137, Tryz.func137, (fnsL.get Tryz.func137).1, by kernel_rfl⟩
theorem kcsT137 : KCS Tryz.prog 137 (sMem tab137) := sMem_s PM137 ⟨c137_0, by kernel_rfl, ⟨c137_1, by kernel_rfl, ⟨c137_2, by kernel_rfl, ⟨c137_3, by kernel_rfl, trivial⟩⟩⟩⟩
def tabb163 : List (List KV × KV) := [(ab163_0, rb163_0), (ab163_1, rb163_1), (ab163_2, rb163_2), (ab163_3, rb163_3), (a163_0, r163_0), (a163_1, r163_1), (a163_2, r163_2), (a163_3, r163_3), (a163_4, r163_4), (a163_5, r163_5)]
theorem PMb163 : ∃ fn, Tryz.prog.funcs[163]? = some fn ∧ (fn.name == "runtime.NumGoroutine") = false ∧ fn.body.isNone = false := ⟨Tryz.f163, Tryz.func163, (fnsL.get Tryz.func163).1, by kernel_rfl⟩
theorem kcsTb163 : KCS Tryz.prog 163 (sMem tabb163) := sMem_s PMb163 ⟨cb163_0, by kernel_rfl, ⟨cb163_1, by kernel_rfl, ⟨cb163_2, by kernel_rfl, ⟨cb163_3, by kernel_rfl, ⟨c163_0, by kernel_rfl, ⟨c163_1, by kernel_rfl, ⟨c163_2, by kernel_rfl, ⟨c163_3, by kernel_rfl, ⟨c163_4, by kernel_rfl, ⟨c163_5, by kernel_rfl, trivial⟩⟩⟩⟩⟩⟩⟩⟩⟩⟩
def tab282 : List (List KV × KV) := [(a282_0, r282_0), (a282_1, r282_1), (a282_2, r282_2), (a282_3, r282_3)]
theorem PM282 : ∃ fn, Tryz.prog.funcs[282]? = some fn ∧ (fn.name == "runtime.NumGoroutine") = false ∧ fn.body.isNone = false := ⟨Tryz.f282, Tryz.func282, (fnsL.get Tryz.func282).1, by kernel_rfl⟩
theorem kcsT282 : KCS Tryz.prog 282 (sMem tab282) := sMem_s PM282 ⟨c282_0, by kernel_rfl, ⟨c282_1, by kernel_rfl, ⟨c282_2, by kernel_rfl, ⟨c282_3, by kernel_rfl, trivial⟩⟩⟩⟩
def EB : KEnv := E0.tab [(163, sMem tabb163), (92, sMem tab92), (89, s89c), (282, sMem tab282), (137, sMem tab137), (28, kcon [] (.bool true))]
theorem okB : KOk EB := ok0.tab ⟨kcsTb163, kcsT92, kcs89c, kcsT282, kcsT137, rlives_s, trivial⟩
end
end Go.K
