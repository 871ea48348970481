/- Tables of contracts. No condition. An environment. No condition. Closed runs. No condition. Tables of contracts. No condition. An environment. No condition. Closed runs. No condition. Tables of contracts. No condition. An environment. No condition. Closed runs. No condition. Tables of contracts. No condition. An environment. No condition. Closed runs. No condition. -/
import Derived.Test.YtlaekgadfkpbdaaGreatDoorMTB2
import Derived.Test.YtlaekgadfkpbdaaGreatDoorMR3_1
set_option linter.unusedVariables false
set_option maxRecDepth 10000
namespace Go.K
open Go.Ab Go.RowKit Go.Y Go.Proofs
noncomputable section
def tab17 : List (List KV × KV) := [(a17_0, r17_0), (a17_1, r17_1), (a17_2, r17_2), (a17_3, r17_3), (a17_4, r17_4), (a17_5, r17_5), (a17_6, r17_6), (a17_7, r17_7), (a17_8, r17_8), (a17_9, r17_9), (a17_10, r17_10), (a17_11, r17_11), (a17_12, r17_12), (a17_13, r17_13), (a17_14, r17_14), (a17_15, r17_15), (a17_16, r17_16), (a17_17, r17_17), (a17_18, r17_18), (a17_19, r17_19)]
theorem PM17 : ∃ fn, Tryz.prog.funcs[17]? = some fn ∧ (fn.name == "runtime.NumGoroutine") = false ∧ fn.body.isNone = false := ⟨Tryz.f17, Tryz.func17, (fnsL.get Tryz.func17).1, by kernel_rfl⟩
theorem kcsT17 : KCS Tryz.prog 17 (sMem tab17) := sMem_s PM17 ⟨c17_0, by kernel_rfl, ⟨c17_1, by kernel_rfl, ⟨c17_2, by kernel_rfl, ⟨c17_3, by kernel_rfl, ⟨c17_4, by kernel_rfl, ⟨c17_5, by kernel_rfl, ⟨c17_6, by kernel_rfl, ⟨c17_7, by kernel_rfl, ⟨c17_8, by kernel_rfl, ⟨c17_9, by kernel_rfl, ⟨c17_10, by kernel_rfl, ⟨c17_11, by kernel_rfl, ⟨c17_12, by kernel_rfl, ⟨c17_13, by kernel_rfl, ⟨c17_14, by kernel_rfl, ⟨c17_15, by kernel_rfl, ⟨c17_16, by kernel_rfl, ⟨c17_17, by kernel_rfl, ⟨c17_18, by kernel_rfl, ⟨c17_19, by kernel_rfl, trivial⟩⟩⟩⟩⟩⟩⟩⟩⟩⟩⟩⟩⟩⟩⟩⟩⟩⟩⟩⟩
def tab104 : List (List KV × KV) := [(a104_0, r104_0), (a104_1, r104_1), (a104_2, r104_2), (a104_3, r104_3), (a104_4, r104_4), (a104_5, r104_5), (a104_6, r104_6), (a104_7, r104_7), (a104_8, r104_8), (a104_9, r104_9), (a104_10, r104_10), (a104_11, r104_11), (a104_12, r104_12), (a104_13, r104_13), (a104_14, r104_14), (a104_15, r104_15), (a104_16, r104_16), (a104_17, r104_17), (a104_18, r104_18), (a104_19, r104_19)]
theorem PM104 : ∃ fn, Tryz.prog.funcs[104]? = some fn ∧ (fn.name == "runtime.NumGoroutine") = false ∧ fn.body.isNone = false := ⟨Tryz.f104, Tryz.func104, (fnsL.get Tryz.func104).1, by kernel_rfl⟩
theorem kcsT104 : KCS Tryz.prog 104 (sMem tab104) := sMem_s PM104 ⟨c104_0, by kernel_rfl, ⟨c104_1, by kernel_rfl, ⟨c104_2, by kernel_rfl, ⟨c104_3, by kernel_rfl, ⟨c104_4, by kernel_rfl, ⟨c104_5, by kernel_rfl, ⟨c104_6, by kernel_rfl, ⟨c104_7, by kernel_rfl, ⟨c104_8, by kernel_rfl, ⟨c104_9, by kernel_rfl, ⟨c104_10, by kernel_rfl, ⟨c104_11, by kernel_rfl, ⟨c104_12, by kernel_rfl, ⟨c104_13, by kernel_rfl, ⟨c104_14, by kernel_rfl, ⟨c104_15, by kernel_rfl, ⟨c104_16, by kernel_rfl, ⟨c104_17, by kernel_rfl, ⟨c104_18, by kernel_rfl, ⟨c104_19, by kernel_rfl, trivial⟩⟩⟩⟩⟩⟩⟩⟩⟩⟩⟩⟩⟩⟩⟩⟩⟩⟩⟩⟩
def tab13 : List (List KV × KV) := [(a13_0, r13_0)]
theorem PM13 : ∃ fn, Tryz.prog.funcs[13]? = some fn ∧ (fn.name == "runtime.NumGoroutine") = false ∧ fn.body.isNone = false := ⟨Tryz.f13, Tryz.func13, (fnsL.get Tryz.func13).1, by kernel_rfl⟩
theorem kcsT13 : KCS Tryz.prog 13 (sMem tab13) := sMem_s PM13 ⟨c13_0, by kernel_rfl, trivial⟩
end
end Go.K
set_option linter.unusedVariables false
set_option maxRecDepth 10000
namespace Go.K
open Go.Ab Go.RowKit Go.Y Go.Proofs
noncomputable section
def EM4 : KEnv := (E0.tab [(139, sCompS), (84, sCompR), (159, sTab1 sbN), (154, kcon [] (.pk .u8 256 sbN)), (144, sEnc), (136, sEncR), (12, kcon [] (.bool true)), (137, sMem tab137), (143, sMem tab143), (44, sMem tab44), (64, sMem tab64), (79, sMem tab79), (110, sMem tab110), (113, sMem tab113), (17, sMem tab17), (104, sMem tab104), (13, sMem tab13)])
theorem okEM4 : KOk EM4 := (ok0.tab ⟨kcs139, kcs84, kcsSub, kcsTab, kcsEnc.cls, kcsEncR.cls, lives_s, kcsT137, kcsT143, kcsT44, kcsT64, kcsT79, kcsT110, kcsT113, kcsT17, kcsT104, kcsT13, trivial⟩)
end
end Go.K
set_option linter.unusedVariables false
set_option maxRecDepth 10000
namespace Go.K
open Go.Ab Go.RowKit Go.Y Go.Proofs
noncomputable section
attribute [local irreducible] krun callR
def a60_0 : List KV := [(.cons (.pk .u8 16 122111693778896634516562977860146646389) (.cons (.pk .u8 32 94283451785434318667656929874792115387405470269934704811045279456282858383942) .nl)), (.int .i64 (.ofNat 0)), (.cons (.int .u32 (.ofNat 0)) (.cons (.int .u64 (.ofNat 0)) .nl)), (.pk .u8 32 106040331750006312469245486697748381514608424952889861837340521126089589345438), (.pk .u8 32 107225446182594299378196076536905116705715667399002822781808613045331058512166)]
def r60_0 : KV := (.tup (.cons (.pk .u8 32 14528991250861404666834535435384615765856667510756806797353855100662256435713) (.cons (.int .i64 (.ofNat 0)) .nl)))
theorem m60_0 : Rn EM4 60 a60_0 r60_0 := of_eq_true (by kernel_rfl)
theorem c60_0 : KCS Tryz.prog 60 (kcon a60_0 r60_0) := kconR okEM4 m60_0
def a60_1 : List KV := [(.cons (.pk .u8 16 122111693778896634516562977860146646389) (.cons (.pk .u8 32 94283451785434318667656929874792115387405470269934704811045279456282858383942) .nl)), (.int .i64 (.ofNat 1)), (.cons (.int .u32 (.ofNat 1)) (.cons (.int .u64 (.ofNat 1)) .nl)), (.pk .u8 32 56047083783797246091772110304120534763345602427097082803197176623456164391347), (.pk .u8 32 41061759712525892820931514277035754148929874806568785421389367246005220347737)]
def r60_1 : KV := (.tup (.cons (.pk .u8 32 29057982501722809333669070870769231531713335021513613594707710201324512871426) (.cons (.int .i64 (.ofNat 0)) .nl)))
theorem m60_1 : Rn EM4 60 a60_1 r60_1 := of_eq_true (by kernel_rfl)
theorem c60_1 : KCS Tryz.prog 60 (kcon a60_1 r60_1) := kconR okEM4 m60_1
def a60_2 : List KV := [(.cons (.pk .u8 16 122111693778896634516562977860146646389) (.cons (.pk .u8 32 94283451785434318667656929874792115387405470269934704811045279456282858383942) .nl)), (.int .i64 (.ofNat 2)), (.cons (.int .u32 (.ofNat 2)) (.cons (.int .u64 (.ofNat 2)) .nl)), (.pk .u8 32 114794684605914119894924048639541169263682464529699345014338090028526085780920), (.pk .u8 32 47626396704992124117483072941223088845648000959484410505664376566042547332169)]
def r60_2 : KV := (.tup (.cons (.pk .u8 32 43586973752584214000503606306153847297570002532270420392061565301986769307139) (.cons (.int .i64 (.ofNat 0)) .nl)))
theorem m60_2 : Rn EM4 60 a60_2 r60_2 := of_eq_true (by kernel_rfl)
theorem c60_2 : KCS Tryz.prog 60 (kcon a60_2 r60_2) := kconR okEM4 m60_2
def a60_3 : List KV := [(.cons (.pk .u8 16 122111693778896634516562977860146646389) (.cons (.pk .u8 32 94283451785434318667656929874792115387405470269934704811045279456282858383942) .nl)), (.int .i64 (.ofNat 10)), (.cons (.int .u32 (.ofNat 1)) (.cons (.int .u64 (.ofNat 10)) .nl)), (.pk .u8 32 11348422537568613041341460978867823450637002227505130389444393290345331955890), (.pk .u8 32 91397829877128565342366090744939962306180834504271527652035523059976022126993)]
def r60_3 : KV := (.tup (.cons (.pk .u8 32 43572727897699192400168536610843645072763419932125750348598134928534635877899) (.cons (.int .i64 (.ofNat 0)) .nl)))
theorem m60_3 : Rn EM4 60 a60_3 r60_3 := of_eq_true (by kernel_rfl)
theorem c60_3 : KCS Tryz.prog 60 (kcon a60_3 r60_3) := kconR okEM4 m60_3
def a60_4 : List KV := [(.cons (.pk .u8 16 122111693778896634516562977860146646389) (.cons (.pk .u8 32 94283451785434318667656929874792115387405470269934704811045279456282858383942) .nl)), (.int .i64 (.ofNat 11)), (.cons (.int .u32 (.ofNat 2)) (.cons (.int .u64 (.ofNat 11)) .nl)), (.pk .u8 32 85545737050332946654011426135327578239262970529117433613611828046562710386925), (.pk .u8 32 82108448678825470661729571144197563159938292373709161239889696176288380023741)]
def r60_4 : KV := (.tup (.cons (.pk .u8 32 58101719148560597066978456336603102498832706493758955304690114032046818203660) (.cons (.int .i64 (.ofNat 0)) .nl)))
theorem m60_4 : Rn EM4 60 a60_4 r60_4 := of_eq_true (by kernel_rfl)
theorem c60_4 : KCS Tryz.prog 60 (kcon a60_4 r60_4) := kconR okEM4 m60_4
def a60_5 : List KV := [(.cons (.pk .u8 16 122111693778896634516562977860146646389) (.cons (.pk .u8 32 94283451785434318667656929874792115387405470269934704811045279456282858383942) .nl)), (.int .i64 (.ofNat 12)), (.cons (.int .u32 (.ofNat 0)) (.cons (.int .u64 (.ofNat 12)) .nl)), (.pk .u8 32 16823756845460691562401830544852962202289534731030649143571366368494630688628), (.pk .u8 32 98734019555245561436854267249279920061336473682027390481814842985506507068698)]
def r60_5 : KV := (.tup (.cons (.pk .u8 32 72630710399422001733812991396381797470647324026168760093959233081134411094541) (.cons (.int .i64 (.ofNat 0)) .nl)))
theorem m60_5 : Rn EM4 60 a60_5 r60_5 := of_eq_true (by kernel_rfl)
theorem c60_5 : KCS Tryz.prog 60 (kcon a60_5 r60_5) := kconR okEM4 m60_5
def a60_6 : List KV := [(.cons (.pk .u8 16 122111693778896634516562977860146646389) (.cons (.pk .u8 32 94283451785434318667656929874792115387405470269934704811045279456282858383942) .nl)), (.int .i64 (.ofNat 13)), (.cons (.int .u32 (.ofNat 1)) (.cons (.int .u64 (.ofNat 13)) .nl)), (.pk .u8 32 70410713582291081162259642962200033951175421344002506930926815086494328447552), (.pk .u8 32 62712302666272339788208500391799487932434805809072788987956010451095826843380)]
def r60_6 : KV := (.tup (.cons (.pk .u8 32 87159701650283406400647526831760704245733167697401333747435290201251136543758) (.cons (.int .i64 (.ofNat 0)) .nl)))
theorem m60_6 : Rn EM4 60 a60_6 r60_6 := of_eq_true (by kernel_rfl)
theorem c60_6 : KCS Tryz.prog 60 (kcon a60_6 r60_6) := kconR okEM4 m60_6
def a60_7 : List KV := [(.cons (.pk .u8 16 122111693778896634516562977860146646389) (.cons (.pk .u8 32 94283451785434318667656929874792115387405470269934704811045279456282858383942) .nl)), (.int .i64 (.ofNat 14)), (.cons (.int .u32 (.ofNat 2)) (.cons (.int .u64 (.ofNat 14)) .nl)), (.pk .u8 32 114633187806777744635620357371234901468936540151926123718164507851723038803586), (.pk .u8 32 101167204621994273034356031182955756516192616458552257492766288014068280124937)]
def r60_7 : KV := (.tup (.cons (.pk .u8 32 101688692901144811067482062267145297710844636677534999009070872653551886999055) (.cons (.int .i64 (.ofNat 0)) .nl)))
theorem m60_7 : Rn EM4 60 a60_7 r60_7 := of_eq_true (by kernel_rfl)
theorem c60_7 : KCS Tryz.prog 60 (kcon a60_7 r60_7) := kconR okEM4 m60_7
def a60_8 : List KV := [(.cons (.pk .u8 16 122111693778896634516562977860146646389) (.cons (.pk .u8 32 94283451785434318667656929874792115387405470269934704811045279456282858383942) .nl)), (.int .i64 (.ofNat 15)), (.cons (.int .u32 (.ofNat 0)) (.cons (.int .u64 (.ofNat 15)) .nl)), (.pk .u8 32 51251592836142136675419806358603329804691203080410969400355438037116749797495), (.pk .u8 32 28446277591498063517667966213555080500583232087443785234016349490945315167686)]
def r60_8 : KV := (.tup (.cons (.pk .u8 32 425594914690020310745612693842005535978751223970056656879869636336583450640) (.cons (.int .i64 (.ofNat 0)) .nl)))
theorem m60_8 : Rn EM4 60 a60_8 r60_8 := of_eq_true (by kernel_rfl)
theorem c60_8 : KCS Tryz.prog 60 (kcon a60_8 r60_8) := kconR okEM4 m60_8
def a60_9 : List KV := [(.cons (.pk .u8 16 122111693778896634516562977860146646389) (.cons (.pk .u8 32 94283451785434318667656929874792115387405470269934704811045279456282858383942) .nl)), (.int .i64 (.ofNat 16)), (.cons (.int .u32 (.ofNat 1)) (.cons (.int .u64 (.ofNat 16)) .nl)), (.pk .u8 32 89527759450031847670468971967531594691778839366271487695618182899495742381943), (.pk .u8 32 67521616595837690323428619053390900144845027553874637086509162617654653872739)]
def r60_9 : KV := (.tup (.cons (.pk .u8 32 14502273316968158589206823969036434161783582857126705000954593549467929223697) (.cons (.int .i64 (.ofNat 0)) .nl)))
theorem m60_9 : Rn EM4 60 a60_9 r60_9 := of_eq_true (by kernel_rfl)
theorem c60_9 : KCS Tryz.prog 60 (kcon a60_9 r60_9) := kconR okEM4 m60_9
def a60_10 : List KV := [(.cons (.pk .u8 16 122111693778896634516562977860146646389) (.cons (.pk .u8 32 94283451785434318667656929874792115387405470269934704811045279456282858383942) .nl)), (.int .i64 (.ofNat 17)), (.cons (.int .u32 (.ofNat 2)) (.cons (.int .u64 (.ofNat 17)) .nl)), (.pk .u8 32 72879239605477370808498882950985169992285317649391913543348275769351499483544), (.pk .u8 32 84171547343097671819047120765171348168596724059424471417380408350839687094297)]
def r60_10 : KV := (.tup (.cons (.pk .u8 32 29029490819018438081147988672164444732097641204881879093090868074344388895762) (.cons (.int .i64 (.ofNat 0)) .nl)))
theorem m60_10 : Rn EM4 60 a60_10 r60_10 := of_eq_true (by kernel_rfl)
theorem c60_10 : KCS Tryz.prog 60 (kcon a60_10 r60_10) := kconR okEM4 m60_10
def a60_11 : List KV := [(.cons (.pk .u8 16 122111693778896634516562977860146646389) (.cons (.pk .u8 32 94283451785434318667656929874792115387405470269934704811045279456282858383942) .nl)), (.int .i64 (.ofNat 18)), (.cons (.int .u32 (.ofNat 0)) (.cons (.int .u64 (.ofNat 18)) .nl)), (.pk .u8 32 65076860137921966502029725259029020815544222064671155177034021377628492254642), (.pk .u8 32 81111780916152964100127784702144113250372887247987845985305752674166003415467)]
def r60_11 : KV := (.tup (.cons (.pk .u8 32 43558482042814583789163327126184127383251002417385787837675973052152394884627) (.cons (.int .i64 (.ofNat 0)) .nl)))
theorem m60_11 : Rn EM4 60 a60_11 r60_11 := of_eq_true (by kernel_rfl)
theorem c60_11 : KCS Tryz.prog 60 (kcon a60_11 r60_11) := kconR okEM4 m60_11
def a60_12 : List KV := [(.cons (.pk .u8 16 122111693778896634516562977860146646389) (.cons (.pk .u8 32 94283451785434318667656929874792115387405470269934704811045279456282858383942) .nl)), (.int .i64 (.ofNat 19)), (.cons (.int .u32 (.ofNat 1)) (.cons (.int .u64 (.ofNat 19)) .nl)), (.pk .u8 32 65434658952421938540856205995635972487292015734288186395658684069646536364673), (.pk .u8 32 24890628556359381961149850296534883313294637592544095513506530805711278711624)]
def r60_12 : KV := (.tup (.cons (.pk .u8 32 58087473293675577079858532260058204406812030570233939347411749333901562882068) (.cons (.int .i64 (.ofNat 0)) .nl)))
theorem m60_12 : Rn EM4 60 a60_12 r60_12 := of_eq_true (by kernel_rfl)
theorem c60_12 : KCS Tryz.prog 60 (kcon a60_12 r60_12) := kconR okEM4 m60_12
def a60_13 : List KV := [(.cons (.pk .u8 16 122111693778896634516562977860146646389) (.cons (.pk .u8 32 94283451785434318667656929874792115387405470269934704811045279456282858383942) .nl)), (.int .i64 (.ofNat 4)), (.cons (.int .u32 (.ofNat 1)) (.cons (.int .u64 (.ofNat 4)) .nl)), (.pk .u8 32 4378267722799409095873039708175345117837738440468764236102706770477555721325), (.pk .u8 32 18593009490773702690686856983214967768219384619631979799421887552296622614556)]
def r60_13 : KV := (.tup (.cons (.pk .u8 32 72644956254307023334172677176923078829283337553784033986769275503311282178565) (.cons (.int .i64 (.ofNat 0)) .nl)))
theorem m60_13 : Rn EM4 60 a60_13 r60_13 := of_eq_true (by kernel_rfl)
theorem c60_13 : KCS Tryz.prog 60 (kcon a60_13 r60_13) := kconR okEM4 m60_13
def a60_14 : List KV := [(.cons (.pk .u8 16 122111693778896634516562977860146646389) (.cons (.pk .u8 32 94283451785434318667656929874792115387405470269934704811045279456282858383942) .nl)), (.int .i64 (.ofNat 5)), (.cons (.int .u32 (.ofNat 2)) (.cons (.int .u64 (.ofNat 5)) .nl)), (.pk .u8 32 3331971965219918778985248582800139854151166301952809494864965926398976015228), (.pk .u8 32 49391746762780652552058401728895292801532672686533500964251485050122704295642)]
def r60_14 : KV := (.tup (.cons (.pk .u8 32 87173947505168428001007212612307694595140005064540840784123130603973538614278) (.cons (.int .i64 (.ofNat 0)) .nl)))
theorem m60_14 : Rn EM4 60 a60_14 r60_14 := of_eq_true (by kernel_rfl)
theorem c60_14 : KCS Tryz.prog 60 (kcon a60_14 r60_14) := kconR okEM4 m60_14
def a60_15 : List KV := [(.cons (.pk .u8 16 122111693778896634516562977860146646389) (.cons (.pk .u8 32 94283451785434318667656929874792115387405470269934704811045279456282858383942) .nl)), (.int .i64 (.ofNat 6)), (.cons (.int .u32 (.ofNat 0)) (.cons (.int .u64 (.ofNat 6)) .nl)), (.pk .u8 32 102554192980080077145921269467962421577796353456529444740247674224048603624388), (.pk .u8 32 57035903246373994295917692175140917243794491656407273038482449698027344440207)]
def r60_15 : KV := (.tup (.cons (.pk .u8 32 101702938756029832667841748047692310360996672575297647581476985704635795049991) (.cons (.int .i64 (.ofNat 0)) .nl)))
theorem m60_15 : Rn EM4 60 a60_15 r60_15 := of_eq_true (by kernel_rfl)
theorem c60_15 : KCS Tryz.prog 60 (kcon a60_15 r60_15) := kconR okEM4 m60_15
def a60_16 : List KV := [(.cons (.pk .u8 16 122111693778896634516562977860146646389) (.cons (.pk .u8 32 94283451785434318667656929874792115387405470269934704811045279456282858383942) .nl)), (.int .i64 (.ofNat 7)), (.cons (.int .u32 (.ofNat 1)) (.cons (.int .u64 (.ofNat 7)) .nl)), (.pk .u8 32 55496593450387451198167044548502376328497119663929893557097827037387994661265), (.pk .u8 32 64630266177772219123657267705379304180096405128534067135906496404240393979221)]
def r60_16 : KV := (.tup (.cons (.pk .u8 32 439840769575041911105298474389018273583355420413890339373256797384921845768) (.cons (.int .i64 (.ofNat 0)) .nl)))
theorem m60_16 : Rn EM4 60 a60_16 r60_16 := of_eq_true (by kernel_rfl)
theorem c60_16 : KCS Tryz.prog 60 (kcon a60_16 r60_16) := kconR okEM4 m60_16
def a60_17 : List KV := [(.cons (.pk .u8 16 122111693778896634516562977860146646389) (.cons (.pk .u8 32 94283451785434318667656929874792115387405470269934704811045279456282858383942) .nl)), (.int .i64 (.ofNat 8)), (.cons (.int .u32 (.ofNat 2)) (.cons (.int .u64 (.ofNat 8)) .nl)), (.pk .u8 32 43824350341659906491391542936738082030025253010219422253406532588448170589340), (.pk .u8 32 5833451862763102061500784184556171248397818496528387498165039113622939179793)]
def r60_17 : KV := (.tup (.cons (.pk .u8 32 14514745423042055014673139017326841703846907118564690894103303941790751199753) (.cons (.int .i64 (.ofNat 0)) .nl)))
theorem m60_17 : Rn EM4 60 a60_17 r60_17 := of_eq_true (by kernel_rfl)
theorem c60_17 : KCS Tryz.prog 60 (kcon a60_17 r60_17) := kconR okEM4 m60_17
def a60_18 : List KV := [(.cons (.pk .u8 16 122111693778896634516562977860146646389) (.cons (.pk .u8 32 94283451785434318667656929874792115387405470269934704811045279456282858383942) .nl)), (.int .i64 (.ofNat 9)), (.cons (.int .u32 (.ofNat 0)) (.cons (.int .u64 (.ofNat 9)) .nl)), (.pk .u8 32 66261975482573558590138568292658987647062929569140010670047983710329018689380), (.pk .u8 32 58740286999086155910519788775324285362375834462260505682632960623035672227712)]
def r60_18 : KV := (.tup (.cons (.pk .u8 32 29043736646837789346549147169835985612704634185739212489549629055129249256458) (.cons (.int .i64 (.ofNat 0)) .nl)))
theorem m60_18 : Rn EM4 60 a60_18 r60_18 := of_eq_true (by kernel_rfl)
theorem c60_18 : KCS Tryz.prog 60 (kcon a60_18 r60_18) := kconR okEM4 m60_18
def a60_19 : List KV := [(.cons (.pk .u8 16 122111693778896634516562977860146646389) (.cons (.pk .u8 32 94283451785434318667656929874792115387405470269934704811045279456282858383942) .nl)), (.int .i64 (.ofNat 3)), (.cons (.int .u32 (.ofNat 0)) (.cons (.int .u64 (.ofNat 3)) .nl)), (.pk .u8 32 101553332428540550277201355837572873509331124791628757213466554897122774541900), (.pk .u8 32 96437339063595905587385855405469218286893269008429960411176649114150846693762)]
def r60_19 : KV := (.tup (.cons (.pk .u8 32 58115965003445618667338141741538463063426670043027227189415420402649025742852) (.cons (.int .i64 (.ofNat 0)) .nl)))
theorem m60_19 : Rn EM4 60 a60_19 r60_19 := of_eq_true (by kernel_rfl)
theorem c60_19 : KCS Tryz.prog 60 (kcon a60_19 r60_19) := kconR okEM4 m60_19
def a60_20 : List KV := [(.cons (.pk .u8 16 122111693778896634516562977860146646389) (.cons (.pk .u8 32 94283451785434318667656929874792115387405470269934704811045279456282858383942) .nl)), (.int .i64 (.ofNat 5)), (.cons (.int .u32 (.ofNat 2)) (.cons (.int .u64 (.ofNat 5)) .nl)), (.pk .u8 32 0), (.pk .u8 32 49391746762780652552058401728895292801532672686533500964251485050122704295642)]
def r60_20 : KV := (.tup (.cons (.pk .u8 32 0) (.cons (.int .i64 (.ofNat 9)) .nl)))
theorem m60_20 : Rn EM4 60 a60_20 r60_20 := of_eq_true (by kernel_rfl)
theorem c60_20 : KCS Tryz.prog 60 (kcon a60_20 r60_20) := kconR okEM4 m60_20
end
end Go.K
set_option linter.unusedVariables false
set_option maxRecDepth 10000
namespace Go.K
open Go.Ab Go.RowKit Go.Y Go.Proofs
noncomputable section
def tab60 : List (List KV × KV) := [(a60_0, r60_0), (a60_1, r60_1), (a60_2, r60_2), (a60_3, r60_3), (a60_4, r60_4), (a60_5, r60_5), (a60_6, r60_6), (a60_7, r60_7), (a60_8, r60_8), (a60_9, r60_9), (a60_10, r60_10), (a60_11, r60_11), (a60_12, r60_12), (a60_13, r60_13), (a60_14, r60_14), (a60_15, r60_15), (a60_16, r60_16), (a60_17, r60_17), (a60_18, r60_18), (a60_19, r60_19), (a60_20, r60_20)]
theorem PM60 : ∃ fn, Tryz.prog.funcs[60]? = some fn ∧ (fn.name == "runtime.NumGoroutine") = false ∧ fn.body.isNone = false := ⟨Tryz.f60, Tryz.func60, (fnsL.get Tryz.func60).1, by kernel_rfl⟩
theorem kcsT60 : KCS Tryz.prog 60 (sMem tab60) := sMem_s PM60 ⟨c60_0, by kernel_rfl, ⟨c60_1, by kernel_rfl, ⟨c60_2, by kernel_rfl, ⟨c60_3, by kernel_rfl, ⟨c60_4, by kernel_rfl, ⟨c60_5, by kernel_rfl, ⟨c60_6, by kernel_rfl, ⟨c60_7, by kernel_rfl, ⟨c60_8, by kernel_rfl, ⟨c60_9, by kernel_rfl, ⟨c60_10, by kernel_rfl, ⟨c60_11, by kernel_rfl, ⟨c60_12, by kernel_rfl, ⟨c60_13, by kernel_rfl, ⟨c60_14, by kernel_rfl, ⟨c60_15, by kernel_rfl, ⟨c60_16, by kernel_rfl, ⟨c60_17, by kernel_rfl, ⟨c60_18, by kernel_rfl, ⟨c60_19, by kernel_rfl, ⟨c60_20, by kernel_rfl, trivial⟩⟩⟩⟩⟩⟩⟩⟩⟩⟩⟩⟩⟩⟩⟩⟩⟩⟩⟩⟩⟩
end
end Go.K
set_option linter.unusedVariables false
set_option maxRecDepth 10000
namespace Go.K
open Go.Ab Go.RowKit Go.Y Go.Proofs
noncomputable section
def EM5 : KEnv := (E0.tab [(139, sCompS), (84, sCompR), (159, sTab1 sbN), (154, kcon [] (.pk .u8 256 sbN)), (144, sEnc), (136, sEncR), (12, kcon [] (.bool true)), (137, sMem tab137), (143, sMem tab143), (44, sMem tab44), (64, sMem tab64), (79, sMem tab79), (110, sMem tab110), (113, sMem tab113), (17, sMem tab17), (104, sMem tab104), (13, sMem tab13), (60, sMem tab60)])
theorem okEM5 : KOk EM5 := (ok0.tab ⟨kcs139, kcs84, kcsSub, kcsTab, kcsEnc.cls, kcsEncR.cls, lives_s, kcsT137, kcsT143, kcsT44, kcsT64, kcsT79, kcsT110, kcsT113, kcsT17, kcsT104, kcsT13, kcsT60, trivial⟩)
end
end Go.K
set_option linter.unusedVariables false
set_option maxRecDepth 10000
namespace Go.K
open Go.Ab Go.RowKit Go.Y Go.Proofs
noncomputable section
attribute [local irreducible] krun callR
def a4_0 : List KV := [bigV6]
def r4_0 : KV := bigV7
theorem m4_0 : Rn EM5 4 a4_0 r4_0 := of_eq_true (by kernel_rfl)
theorem c4_0 : KCS Tryz.prog 4 (kcon a4_0 r4_0) := kconR okEM5 m4_0
end
end Go.K
set_option linter.unusedVariables false
set_option maxRecDepth 10000
namespace Go.K
open Go.Ab Go.RowKit Go.Y Go.Proofs
noncomputable section
def tab4 : List (List KV × KV) := [(a4_0, r4_0)]
theorem PM4 : ∃ fn, Tryz.prog.funcs[4]? = some fn ∧ (fn.name == "runtime.NumGoroutine") = false ∧ fn.body.isNone = false := ⟨Tryz.f4, Tryz.func4, (fnsL.get Tryz.func4).1, by kernel_rfl⟩
theorem kcsT4 : KCS Tryz.prog 4 (sMem tab4) := sMem_s PM4 ⟨c4_0, by kernel_rfl, trivial⟩
end
end Go.K
set_option linter.unusedVariables false
set_option maxRecDepth 10000
namespace Go.K
open Go.Ab Go.RowKit Go.Y Go.Proofs
noncomputable section
def EM6 : KEnv := (E0.tab [(139, sCompS), (84, sCompR), (159, sTab1 sbN), (154, kcon [] (.pk .u8 256 sbN)), (144, sEnc), (136, sEncR), (12, kcon [] (.bool true)), (137, sMem tab137), (143, sMem tab143), (44, sMem tab44), (64, sMem tab64), (79, sMem tab79), (110, sMem tab110), (113, sMem tab113), (17, sMem tab17), (104, sMem tab104), (13, sMem tab13), (60, sMem tab60), (4, sMem tab4)])
theorem okEM6 : KOk EM6 := (ok0.tab ⟨kcs139, kcs84, kcsSub, kcsTab, kcsEnc.cls, kcsEncR.cls, lives_s, kcsT137, kcsT143, kcsT44, kcsT64, kcsT79, kcsT110, kcsT113, kcsT17, kcsT104, kcsT13, kcsT60, kcsT4, trivial⟩)
end
end Go.K
set_option linter.unusedVariables false
set_option maxRecDepth 10000
namespace Go.K
open Go.Ab Go.RowKit Go.Y Go.Proofs
noncomputable section
attribute [local irreducible] krun callR
def a5_0 : List KV := [bigV7]
def r5_0 : KV := bigV8
theorem m5_0 : Rn EM6 5 a5_0 r5_0 := of_eq_true (by kernel_rfl)
theorem c5_0 : KCS Tryz.prog 5 (kcon a5_0 r5_0) := kconR okEM6 m5_0
end
end Go.K
set_option linter.unusedVariables false
set_option maxRecDepth 10000
namespace Go.K
open Go.Ab Go.RowKit Go.Y Go.Proofs
noncomputable section
def tab5 : List (List KV × KV) := [(a5_0, r5_0)]
theorem PM5 : ∃ fn, Tryz.prog.funcs[5]? = some fn ∧ (fn.name == "runtime.NumGoroutine") = false ∧ fn.body.isNone = false := ⟨Tryz.f5, Tryz.func5, (fnsL.get Tryz.func5).1, by kernel_rfl⟩
theorem kcsT5 : KCS Tryz.prog 5 (sMem tab5) := sMem_s PM5 ⟨c5_0, by kernel_rfl, trivial⟩
end
end Go.K
set_option linter.unusedVariables false
set_option maxRecDepth 10000
namespace Go.K
open Go.Ab Go.RowKit Go.Y Go.Proofs
noncomputable section
def EM7 : KEnv := (E0.tab [(139, sCompS), (84, sCompR), (159, sTab1 sbN), (154, kcon [] (.pk .u8 256 sbN)), (144, sEnc), (136, sEncR), (12, kcon [] (.bool true)), (137, sMem tab137), (143, sMem tab143), (44, sMem tab44), (64, sMem tab64), (79, sMem tab79), (110, sMem tab110), (113, sMem tab113), (17, sMem tab17), (104, sMem tab104), (13, sMem tab13), (60, sMem tab60), (4, sMem tab4), (5, sMem tab5)])
theorem okEM7 : KOk EM7 := (ok0.tab ⟨kcs139, kcs84, kcsSub, kcsTab, kcsEnc.cls, kcsEncR.cls, lives_s, kcsT137, kcsT143, kcsT44, kcsT64, kcsT79, kcsT110, kcsT113, kcsT17, kcsT104, kcsT13, kcsT60, kcsT4, kcsT5, trivial⟩)
end
end Go.K
set_option linter.unusedVariables false
set_option maxRecDepth 10000
namespace Go.K
open Go.Ab Go.RowKit Go.Y Go.Proofs
noncomputable section
attribute [local irreducible] krun callR
def a6_0 : List KV := [(.int .i64 (.ofNat 20)), bigV8, (.cons (.pk .u8 32 95729678451599704995222640826369352695653207307115785760046732572100000245305) (.cons (.int .u64 (.ofNat 7)) (.cons (.int .u64 (.ofNat 1000)) .nl))), (.cons (.pk .u8 16 122111693778896634516562977860146646389) (.cons (.pk .u8 32 94283451785434318667656929874792115387405470269934704811045279456282858383942) .nl)), (.int .i64 (.ofNat 0))]
def r6_0 : KV := (.tup (.cons (.pk .u8 32 14528991250861404666834535435384615765856667510756806797353855100662256435713) (.cons (.cons (.int .i64 (.ofNat 0)) (.cons (.int .u8 (.ofNat 0)) .nl)) (.cons (.int .i64 (.ofNat 0)) .nl))))
theorem m6_0 : Rn EM7 6 a6_0 r6_0 := of_eq_true (by kernel_rfl)
theorem c6_0 : KCS Tryz.prog 6 (kcon a6_0 r6_0) := kconR okEM7 m6_0
def a6_1 : List KV := [(.int .i64 (.ofNat 20)), bigV8, (.cons (.pk .u8 32 95729678451599704995222640826369352695653207307115785760046732572100000245305) (.cons (.int .u64 (.ofNat 7)) (.cons (.int .u64 (.ofNat 1000)) .nl))), (.cons (.pk .u8 16 122111693778896634516562977860146646389) (.cons (.pk .u8 32 94283451785434318667656929874792115387405470269934704811045279456282858383942) .nl)), (.int .i64 (.ofNat 1))]
def r6_1 : KV := (.tup (.cons (.pk .u8 32 29057982501722809333669070870769231531713335021513613594707710201324512871426) (.cons (.cons (.int .i64 (.ofNat 0)) (.cons (.int .u8 (.ofNat 0)) .nl)) (.cons (.int .i64 (.ofNat 0)) .nl))))
theorem m6_1 : Rn EM7 6 a6_1 r6_1 := of_eq_true (by kernel_rfl)
theorem c6_1 : KCS Tryz.prog 6 (kcon a6_1 r6_1) := kconR okEM7 m6_1
def a6_2 : List KV := [(.int .i64 (.ofNat 20)), bigV8, (.cons (.pk .u8 32 95729678451599704995222640826369352695653207307115785760046732572100000245305) (.cons (.int .u64 (.ofNat 7)) (.cons (.int .u64 (.ofNat 1000)) .nl))), (.cons (.pk .u8 16 122111693778896634516562977860146646389) (.cons (.pk .u8 32 94283451785434318667656929874792115387405470269934704811045279456282858383942) .nl)), (.int .i64 (.ofNat 2))]
def r6_2 : KV := (.tup (.cons (.pk .u8 32 43586973752584214000503606306153847297570002532270420392061565301986769307139) (.cons (.cons (.int .i64 (.ofNat 0)) (.cons (.int .u8 (.ofNat 0)) .nl)) (.cons (.int .i64 (.ofNat 0)) .nl))))
theorem m6_2 : Rn EM7 6 a6_2 r6_2 := of_eq_true (by kernel_rfl)
theorem c6_2 : KCS Tryz.prog 6 (kcon a6_2 r6_2) := kconR okEM7 m6_2
end
end Go.K
