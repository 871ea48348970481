/- The cipher's tables as contracts. No condition. -/
import Derived.Test.YthnhbdidiglcgaaGreatDoorMS0
import Derived.Test.YthnhbdidiglcgaaGreatDoorMS2
import Derived.Test.YthnhbdidiglcgaaGreatDoorMM0
import Derived.Test.YthnhbdidiglcgaaGreatDoorMM2
import Derived.Test.YthnhbdidiglcgaaGreatDoorMTT
set_option linter.unusedVariables false
namespace Go.K
open Go.Ab Go.RowKit Go.Y Go.Proofs
noncomputable section
attribute [local irreducible] krun callR
theorem psub_all0 : ∀ n, 0 ≤ n → n < 64 → Psub n := by
  intro n h1 h2
  have h : allPN (fun t => Psub (0 + t)) 64 := ⟨⟨⟨⟨⟨⟨⟨⟨⟨⟨⟨⟨⟨⟨⟨⟨⟨⟨⟨⟨⟨⟨⟨⟨⟨⟨⟨⟨⟨⟨⟨⟨⟨⟨⟨⟨⟨⟨⟨⟨⟨⟨⟨⟨⟨⟨⟨⟨⟨⟨⟨⟨⟨⟨⟨⟨⟨⟨⟨⟨⟨⟨⟨⟨trivial, ps0⟩, ps1⟩, ps2⟩, ps3⟩, ps4⟩, ps5⟩, ps6⟩, ps7⟩, ps8⟩, ps9⟩, ps10⟩, ps11⟩, ps12⟩, ps13⟩, ps14⟩, ps15⟩, ps16⟩, ps17⟩, ps18⟩, ps19⟩, ps20⟩, ps21⟩, ps22⟩, ps23⟩, ps24⟩, ps25⟩, ps26⟩, ps27⟩, ps28⟩, ps29⟩, ps30⟩, ps31⟩, ps32⟩, ps33⟩, ps34⟩, ps35⟩, ps36⟩, ps37⟩, ps38⟩, ps39⟩, ps40⟩, ps41⟩, ps42⟩, ps43⟩, ps44⟩, ps45⟩, ps46⟩, ps47⟩, ps48⟩, ps49⟩, ps50⟩, ps51⟩, ps52⟩, ps53⟩, ps54⟩, ps55⟩, ps56⟩, ps57⟩, ps58⟩, ps59⟩, ps60⟩, ps61⟩, ps62⟩, ps63⟩
  have := allPN_lt h (n - 0) (by omega)
  rw [show 0 + (n - 0) = n by omega] at this
  exact this
theorem psub_all64 : ∀ n, 64 ≤ n → n < 128 → Psub n := by
  intro n h1 h2
  have h : allPN (fun t => Psub (64 + t)) 64 := ⟨⟨⟨⟨⟨⟨⟨⟨⟨⟨⟨⟨⟨⟨⟨⟨⟨⟨⟨⟨⟨⟨⟨⟨⟨⟨⟨⟨⟨⟨⟨⟨⟨⟨⟨⟨⟨⟨⟨⟨⟨⟨⟨⟨⟨⟨⟨⟨⟨⟨⟨⟨⟨⟨⟨⟨⟨⟨⟨⟨⟨⟨⟨⟨trivial, ps64⟩, ps65⟩, ps66⟩, ps67⟩, ps68⟩, ps69⟩, ps70⟩, ps71⟩, ps72⟩, ps73⟩, ps74⟩, ps75⟩, ps76⟩, ps77⟩, ps78⟩, ps79⟩, ps80⟩, ps81⟩, ps82⟩, ps83⟩, ps84⟩, ps85⟩, ps86⟩, ps87⟩, ps88⟩, ps89⟩, ps90⟩, ps91⟩, ps92⟩, ps93⟩, ps94⟩, ps95⟩, ps96⟩, ps97⟩, ps98⟩, ps99⟩, ps100⟩, ps101⟩, ps102⟩, ps103⟩, ps104⟩, ps105⟩, ps106⟩, ps107⟩, ps108⟩, ps109⟩, ps110⟩, ps111⟩, ps112⟩, ps113⟩, ps114⟩, ps115⟩, ps116⟩, ps117⟩, ps118⟩, ps119⟩, ps120⟩, ps121⟩, ps122⟩, ps123⟩, ps124⟩, ps125⟩, ps126⟩, ps127⟩
  have := allPN_lt h (n - 64) (by omega)
  rw [show 64 + (n - 64) = n by omega] at this
  exact this
theorem psub_all128 : ∀ n, 128 ≤ n → n < 192 → Psub n := by
  intro n h1 h2
  have h : allPN (fun t => Psub (128 + t)) 64 := ⟨⟨⟨⟨⟨⟨⟨⟨⟨⟨⟨⟨⟨⟨⟨⟨⟨⟨⟨⟨⟨⟨⟨⟨⟨⟨⟨⟨⟨⟨⟨⟨⟨⟨⟨⟨⟨⟨⟨⟨⟨⟨⟨⟨⟨⟨⟨⟨⟨⟨⟨⟨⟨⟨⟨⟨⟨⟨⟨⟨⟨⟨⟨⟨trivial, ps128⟩, ps129⟩, ps130⟩, ps131⟩, ps132⟩, ps133⟩, ps134⟩, ps135⟩, ps136⟩, ps137⟩, ps138⟩, ps139⟩, ps140⟩, ps141⟩, ps142⟩, ps143⟩, ps144⟩, ps145⟩, ps146⟩, ps147⟩, ps148⟩, ps149⟩, ps150⟩, ps151⟩, ps152⟩, ps153⟩, ps154⟩, ps155⟩, ps156⟩, ps157⟩, ps158⟩, ps159⟩, ps160⟩, ps161⟩, ps162⟩, ps163⟩, ps164⟩, ps165⟩, ps166⟩, ps167⟩, ps168⟩, ps169⟩, ps170⟩, ps171⟩, ps172⟩, ps173⟩, ps174⟩, ps175⟩, ps176⟩, ps177⟩, ps178⟩, ps179⟩, ps180⟩, ps181⟩, ps182⟩, ps183⟩, ps184⟩, ps185⟩, ps186⟩, ps187⟩, ps188⟩, ps189⟩, ps190⟩, ps191⟩
  have := allPN_lt h (n - 128) (by omega)
  rw [show 128 + (n - 128) = n by omega] at this
  exact this
theorem psub_all192 : ∀ n, 192 ≤ n → n < 256 → Psub n := by
  intro n h1 h2
  have h : allPN (fun t => Psub (192 + t)) 64 := ⟨⟨⟨⟨⟨⟨⟨⟨⟨⟨⟨⟨⟨⟨⟨⟨⟨⟨⟨⟨⟨⟨⟨⟨⟨⟨⟨⟨⟨⟨⟨⟨⟨⟨⟨⟨⟨⟨⟨⟨⟨⟨⟨⟨⟨⟨⟨⟨⟨⟨⟨⟨⟨⟨⟨⟨⟨⟨⟨⟨⟨⟨⟨⟨trivial, ps192⟩, ps193⟩, ps194⟩, ps195⟩, ps196⟩, ps197⟩, ps198⟩, ps199⟩, ps200⟩, ps201⟩, ps202⟩, ps203⟩, ps204⟩, ps205⟩, ps206⟩, ps207⟩, ps208⟩, ps209⟩, ps210⟩, ps211⟩, ps212⟩, ps213⟩, ps214⟩, ps215⟩, ps216⟩, ps217⟩, ps218⟩, ps219⟩, ps220⟩, ps221⟩, ps222⟩, ps223⟩, ps224⟩, ps225⟩, ps226⟩, ps227⟩, ps228⟩, ps229⟩, ps230⟩, ps231⟩, ps232⟩, ps233⟩, ps234⟩, ps235⟩, ps236⟩, ps237⟩, ps238⟩, ps239⟩, ps240⟩, ps241⟩, ps242⟩, ps243⟩, ps244⟩, ps245⟩, ps246⟩, ps247⟩, ps248⟩, ps249⟩, ps250⟩, ps251⟩, ps252⟩, ps253⟩, ps254⟩, ps255⟩
  have := allPN_lt h (n - 192) (by omega)
  rw [show 192 + (n - 192) = n by omega] at this
  exact this
theorem psub_all : ∀ n, n < 256 → Psub n := by
  intro n h
  rcases Nat.lt_or_ge n 64 with h0 | h0
  · exact psub_all0 n (by omega) (by omega)
  rcases Nat.lt_or_ge n 128 with h64 | h64
  · exact psub_all64 n (by omega) (by omega)
  rcases Nat.lt_or_ge n 192 with h128 | h128
  · exact psub_all128 n (by omega) (by omega)
  exact psub_all192 n (by omega) (by omega)
theorem pmul_all0 : ∀ n, 0 ≤ n → n < 64 → Pmul n := by
  intro n h1 h2
  have h : allPN (fun t => Pmul (0 + t)) 64 := ⟨⟨⟨⟨⟨⟨⟨⟨⟨⟨⟨⟨⟨⟨⟨⟨⟨⟨⟨⟨⟨⟨⟨⟨⟨⟨⟨⟨⟨⟨⟨⟨⟨⟨⟨⟨⟨⟨⟨⟨⟨⟨⟨⟨⟨⟨⟨⟨⟨⟨⟨⟨⟨⟨⟨⟨⟨⟨⟨⟨⟨⟨⟨⟨trivial, pm0⟩, pm1⟩, pm2⟩, pm3⟩, pm4⟩, pm5⟩, pm6⟩, pm7⟩, pm8⟩, pm9⟩, pm10⟩, pm11⟩, pm12⟩, pm13⟩, pm14⟩, pm15⟩, pm16⟩, pm17⟩, pm18⟩, pm19⟩, pm20⟩, pm21⟩, pm22⟩, pm23⟩, pm24⟩, pm25⟩, pm26⟩, pm27⟩, pm28⟩, pm29⟩, pm30⟩, pm31⟩, pm32⟩, pm33⟩, pm34⟩, pm35⟩, pm36⟩, pm37⟩, pm38⟩, pm39⟩, pm40⟩, pm41⟩, pm42⟩, pm43⟩, pm44⟩, pm45⟩, pm46⟩, pm47⟩, pm48⟩, pm49⟩, pm50⟩, pm51⟩, pm52⟩, pm53⟩, pm54⟩, pm55⟩, pm56⟩, pm57⟩, pm58⟩, pm59⟩, pm60⟩, pm61⟩, pm62⟩, pm63⟩
  have := allPN_lt h (n - 0) (by omega)
  rw [show 0 + (n - 0) = n by omega] at this
  exact this
theorem pmul_all64 : ∀ n, 64 ≤ n → n < 128 → Pmul n := by
  intro n h1 h2
  have h : allPN (fun t => Pmul (64 + t)) 64 := ⟨⟨⟨⟨⟨⟨⟨⟨⟨⟨⟨⟨⟨⟨⟨⟨⟨⟨⟨⟨⟨⟨⟨⟨⟨⟨⟨⟨⟨⟨⟨⟨⟨⟨⟨⟨⟨⟨⟨⟨⟨⟨⟨⟨⟨⟨⟨⟨⟨⟨⟨⟨⟨⟨⟨⟨⟨⟨⟨⟨⟨⟨⟨⟨trivial, pm64⟩, pm65⟩, pm66⟩, pm67⟩, pm68⟩, pm69⟩, pm70⟩, pm71⟩, pm72⟩, pm73⟩, pm74⟩, pm75⟩, pm76⟩, pm77⟩, pm78⟩, pm79⟩, pm80⟩, pm81⟩, pm82⟩, pm83⟩, pm84⟩, pm85⟩, pm86⟩, pm87⟩, pm88⟩, pm89⟩, pm90⟩, pm91⟩, pm92⟩, pm93⟩, pm94⟩, pm95⟩, pm96⟩, pm97⟩, pm98⟩, pm99⟩, pm100⟩, pm101⟩, pm102⟩, pm103⟩, pm104⟩, pm105⟩, pm106⟩, pm107⟩, pm108⟩, pm109⟩, pm110⟩, pm111⟩, pm112⟩, pm113⟩, pm114⟩, pm115⟩, pm116⟩, pm117⟩, pm118⟩, pm119⟩, pm120⟩, pm121⟩, pm122⟩, pm123⟩, pm124⟩, pm125⟩, pm126⟩, pm127⟩
  have := allPN_lt h (n - 64) (by omega)
  rw [show 64 + (n - 64) = n by omega] at this
  exact this
theorem pmul_all128 : ∀ n, 128 ≤ n → n < 192 → Pmul n := by
  intro n h1 h2
  have h : allPN (fun t => Pmul (128 + t)) 64 := ⟨⟨⟨⟨⟨⟨⟨⟨⟨⟨⟨⟨⟨⟨⟨⟨⟨⟨⟨⟨⟨⟨⟨⟨⟨⟨⟨⟨⟨⟨⟨⟨⟨⟨⟨⟨⟨⟨⟨⟨⟨⟨⟨⟨⟨⟨⟨⟨⟨⟨⟨⟨⟨⟨⟨⟨⟨⟨⟨⟨⟨⟨⟨⟨trivial, pm128⟩, pm129⟩, pm130⟩, pm131⟩, pm132⟩, pm133⟩, pm134⟩, pm135⟩, pm136⟩, pm137⟩, pm138⟩, pm139⟩, pm140⟩, pm141⟩, pm142⟩, pm143⟩, pm144⟩, pm145⟩, pm146⟩, pm147⟩, pm148⟩, pm149⟩, pm150⟩, pm151⟩, pm152⟩, pm153⟩, pm154⟩, pm155⟩, pm156⟩, pm157⟩, pm158⟩, pm159⟩, pm160⟩, pm161⟩, pm162⟩, pm163⟩, pm164⟩, pm165⟩, pm166⟩, pm167⟩, pm168⟩, pm169⟩, pm170⟩, pm171⟩, pm172⟩, pm173⟩, pm174⟩, pm175⟩, pm176⟩, pm177⟩, pm178⟩, pm179⟩, pm180⟩, pm181⟩, pm182⟩, pm183⟩, pm184⟩, pm185⟩, pm186⟩, pm187⟩, pm188⟩, pm189⟩, pm190⟩, pm191⟩
  have := allPN_lt h (n - 128) (by omega)
  rw [show 128 + (n - 128) = n by omega] at this
  exact this
theorem pmul_all192 : ∀ n, 192 ≤ n → n < 256 → Pmul n := by
  intro n h1 h2
  have h : allPN (fun t => Pmul (192 + t)) 64 := ⟨⟨⟨⟨⟨⟨⟨⟨⟨⟨⟨⟨⟨⟨⟨⟨⟨⟨⟨⟨⟨⟨⟨⟨⟨⟨⟨⟨⟨⟨⟨⟨⟨⟨⟨⟨⟨⟨⟨⟨⟨⟨⟨⟨⟨⟨⟨⟨⟨⟨⟨⟨⟨⟨⟨⟨⟨⟨⟨⟨⟨⟨⟨⟨trivial, pm192⟩, pm193⟩, pm194⟩, pm195⟩, pm196⟩, pm197⟩, pm198⟩, pm199⟩, pm200⟩, pm201⟩, pm202⟩, pm203⟩, pm204⟩, pm205⟩, pm206⟩, pm207⟩, pm208⟩, pm209⟩, pm210⟩, pm211⟩, pm212⟩, pm213⟩, pm214⟩, pm215⟩, pm216⟩, pm217⟩, pm218⟩, pm219⟩, pm220⟩, pm221⟩, pm222⟩, pm223⟩, pm224⟩, pm225⟩, pm226⟩, pm227⟩, pm228⟩, pm229⟩, pm230⟩, pm231⟩, pm232⟩, pm233⟩, pm234⟩, pm235⟩, pm236⟩, pm237⟩, pm238⟩, pm239⟩, pm240⟩, pm241⟩, pm242⟩, pm243⟩, pm244⟩, pm245⟩, pm246⟩, pm247⟩, pm248⟩, pm249⟩, pm250⟩, pm251⟩, pm252⟩, pm253⟩, pm254⟩, pm255⟩
  have := allPN_lt h (n - 192) (by omega)
  rw [show 192 + (n - 192) = n by omega] at this
  exact this
theorem pmul_all256 : ∀ n, 256 ≤ n → n < 320 → Pmul n := by
  intro n h1 h2
  have h : allPN (fun t => Pmul (256 + t)) 64 := ⟨⟨⟨⟨⟨⟨⟨⟨⟨⟨⟨⟨⟨⟨⟨⟨⟨⟨⟨⟨⟨⟨⟨⟨⟨⟨⟨⟨⟨⟨⟨⟨⟨⟨⟨⟨⟨⟨⟨⟨⟨⟨⟨⟨⟨⟨⟨⟨⟨⟨⟨⟨⟨⟨⟨⟨⟨⟨⟨⟨⟨⟨⟨⟨trivial, pm256⟩, pm257⟩, pm258⟩, pm259⟩, pm260⟩, pm261⟩, pm262⟩, pm263⟩, pm264⟩, pm265⟩, pm266⟩, pm267⟩, pm268⟩, pm269⟩, pm270⟩, pm271⟩, pm272⟩, pm273⟩, pm274⟩, pm275⟩, pm276⟩, pm277⟩, pm278⟩, pm279⟩, pm280⟩, pm281⟩, pm282⟩, pm283⟩, pm284⟩, pm285⟩, pm286⟩, pm287⟩, pm288⟩, pm289⟩, pm290⟩, pm291⟩, pm292⟩, pm293⟩, pm294⟩, pm295⟩, pm296⟩, pm297⟩, pm298⟩, pm299⟩, pm300⟩, pm301⟩, pm302⟩, pm303⟩, pm304⟩, pm305⟩, pm306⟩, pm307⟩, pm308⟩, pm309⟩, pm310⟩, pm311⟩, pm312⟩, pm313⟩, pm314⟩, pm315⟩, pm316⟩, pm317⟩, pm318⟩, pm319⟩
  have := allPN_lt h (n - 256) (by omega)
  rw [show 256 + (n - 256) = n by omega] at this
  exact this
theorem pmul_all320 : ∀ n, 320 ≤ n → n < 384 → Pmul n := by
  intro n h1 h2
  have h : allPN (fun t => Pmul (320 + t)) 64 := ⟨⟨⟨⟨⟨⟨⟨⟨⟨⟨⟨⟨⟨⟨⟨⟨⟨⟨⟨⟨⟨⟨⟨⟨⟨⟨⟨⟨⟨⟨⟨⟨⟨⟨⟨⟨⟨⟨⟨⟨⟨⟨⟨⟨⟨⟨⟨⟨⟨⟨⟨⟨⟨⟨⟨⟨⟨⟨⟨⟨⟨⟨⟨⟨trivial, pm320⟩, pm321⟩, pm322⟩, pm323⟩, pm324⟩, pm325⟩, pm326⟩, pm327⟩, pm328⟩, pm329⟩, pm330⟩, pm331⟩, pm332⟩, pm333⟩, pm334⟩, pm335⟩, pm336⟩, pm337⟩, pm338⟩, pm339⟩, pm340⟩, pm341⟩, pm342⟩, pm343⟩, pm344⟩, pm345⟩, pm346⟩, pm347⟩, pm348⟩, pm349⟩, pm350⟩, pm351⟩, pm352⟩, pm353⟩, pm354⟩, pm355⟩, pm356⟩, pm357⟩, pm358⟩, pm359⟩, pm360⟩, pm361⟩, pm362⟩, pm363⟩, pm364⟩, pm365⟩, pm366⟩, pm367⟩, pm368⟩, pm369⟩, pm370⟩, pm371⟩, pm372⟩, pm373⟩, pm374⟩, pm375⟩, pm376⟩, pm377⟩, pm378⟩, pm379⟩, pm380⟩, pm381⟩, pm382⟩, pm383⟩
  have := allPN_lt h (n - 320) (by omega)
  rw [show 320 + (n - 320) = n by omega] at this
  exact this
theorem pmul_all384 : ∀ n, 384 ≤ n → n < 448 → Pmul n := by
  intro n h1 h2
  have h : allPN (fun t => Pmul (384 + t)) 64 := ⟨⟨⟨⟨⟨⟨⟨⟨⟨⟨⟨⟨⟨⟨⟨⟨⟨⟨⟨⟨⟨⟨⟨⟨⟨⟨⟨⟨⟨⟨⟨⟨⟨⟨⟨⟨⟨⟨⟨⟨⟨⟨⟨⟨⟨⟨⟨⟨⟨⟨⟨⟨⟨⟨⟨⟨⟨⟨⟨⟨⟨⟨⟨⟨trivial, pm384⟩, pm385⟩, pm386⟩, pm387⟩, pm388⟩, pm389⟩, pm390⟩, pm391⟩, pm392⟩, pm393⟩, pm394⟩, pm395⟩, pm396⟩, pm397⟩, pm398⟩, pm399⟩, pm400⟩, pm401⟩, pm402⟩, pm403⟩, pm404⟩, pm405⟩, pm406⟩, pm407⟩, pm408⟩, pm409⟩, pm410⟩, pm411⟩, pm412⟩, pm413⟩, pm414⟩, pm415⟩, pm416⟩, pm417⟩, pm418⟩, pm419⟩, pm420⟩, pm421⟩, pm422⟩, pm423⟩, pm424⟩, pm425⟩, pm426⟩, pm427⟩, pm428⟩, pm429⟩, pm430⟩, pm431⟩, pm432⟩, pm433⟩, pm434⟩, pm435⟩, pm436⟩, pm437⟩, pm438⟩, pm439⟩, pm440⟩, pm441⟩, pm442⟩, pm443⟩, pm444⟩, pm445⟩, pm446⟩, pm447⟩
  have := allPN_lt h (n - 384) (by omega)
  rw [show 384 + (n - 384) = n by omega] at this
  exact this
theorem pmul_all448 : ∀ n, 448 ≤ n → n < 512 → Pmul n := by
  intro n h1 h2
  have h : allPN (fun t => Pmul (448 + t)) 64 := ⟨⟨⟨⟨⟨⟨⟨⟨⟨⟨⟨⟨⟨⟨⟨⟨⟨⟨⟨⟨⟨⟨⟨⟨⟨⟨⟨⟨⟨⟨⟨⟨⟨⟨⟨⟨⟨⟨⟨⟨⟨⟨⟨⟨⟨⟨⟨⟨⟨⟨⟨⟨⟨⟨⟨⟨⟨⟨⟨⟨⟨⟨⟨⟨trivial, pm448⟩, pm449⟩, pm450⟩, pm451⟩, pm452⟩, pm453⟩, pm454⟩, pm455⟩, pm456⟩, pm457⟩, pm458⟩, pm459⟩, pm460⟩, pm461⟩, pm462⟩, pm463⟩, pm464⟩, pm465⟩, pm466⟩, pm467⟩, pm468⟩, pm469⟩, pm470⟩, pm471⟩, pm472⟩, pm473⟩, pm474⟩, pm475⟩, pm476⟩, pm477⟩, pm478⟩, pm479⟩, pm480⟩, pm481⟩, pm482⟩, pm483⟩, pm484⟩, pm485⟩, pm486⟩, pm487⟩, pm488⟩, pm489⟩, pm490⟩, pm491⟩, pm492⟩, pm493⟩, pm494⟩, pm495⟩, pm496⟩, pm497⟩, pm498⟩, pm499⟩, pm500⟩, pm501⟩, pm502⟩, pm503⟩, pm504⟩, pm505⟩, pm506⟩, pm507⟩, pm508⟩, pm509⟩, pm510⟩, pm511⟩
  have := allPN_lt h (n - 448) (by omega)
  rw [show 448 + (n - 448) = n by omega] at this
  exact this
theorem pmul_all512 : ∀ n, 512 ≤ n → n < 576 → Pmul n := by
  intro n h1 h2
  have h : allPN (fun t => Pmul (512 + t)) 64 := ⟨⟨⟨⟨⟨⟨⟨⟨⟨⟨⟨⟨⟨⟨⟨⟨⟨⟨⟨⟨⟨⟨⟨⟨⟨⟨⟨⟨⟨⟨⟨⟨⟨⟨⟨⟨⟨⟨⟨⟨⟨⟨⟨⟨⟨⟨⟨⟨⟨⟨⟨⟨⟨⟨⟨⟨⟨⟨⟨⟨⟨⟨⟨⟨trivial, pm512⟩, pm513⟩, pm514⟩, pm515⟩, pm516⟩, pm517⟩, pm518⟩, pm519⟩, pm520⟩, pm521⟩, pm522⟩, pm523⟩, pm524⟩, pm525⟩, pm526⟩, pm527⟩, pm528⟩, pm529⟩, pm530⟩, pm531⟩, pm532⟩, pm533⟩, pm534⟩, pm535⟩, pm536⟩, pm537⟩, pm538⟩, pm539⟩, pm540⟩, pm541⟩, pm542⟩, pm543⟩, pm544⟩, pm545⟩, pm546⟩, pm547⟩, pm548⟩, pm549⟩, pm550⟩, pm551⟩, pm552⟩, pm553⟩, pm554⟩, pm555⟩, pm556⟩, pm557⟩, pm558⟩, pm559⟩, pm560⟩, pm561⟩, pm562⟩, pm563⟩, pm564⟩, pm565⟩, pm566⟩, pm567⟩, pm568⟩, pm569⟩, pm570⟩, pm571⟩, pm572⟩, pm573⟩, pm574⟩, pm575⟩
  have := allPN_lt h (n - 512) (by omega)
  rw [show 512 + (n - 512) = n by omega] at this
  exact this
theorem pmul_all576 : ∀ n, 576 ≤ n → n < 640 → Pmul n := by
  intro n h1 h2
  have h : allPN (fun t => Pmul (576 + t)) 64 := ⟨⟨⟨⟨⟨⟨⟨⟨⟨⟨⟨⟨⟨⟨⟨⟨⟨⟨⟨⟨⟨⟨⟨⟨⟨⟨⟨⟨⟨⟨⟨⟨⟨⟨⟨⟨⟨⟨⟨⟨⟨⟨⟨⟨⟨⟨⟨⟨⟨⟨⟨⟨⟨⟨⟨⟨⟨⟨⟨⟨⟨⟨⟨⟨trivial, pm576⟩, pm577⟩, pm578⟩, pm579⟩, pm580⟩, pm581⟩, pm582⟩, pm583⟩, pm584⟩, pm585⟩, pm586⟩, pm587⟩, pm588⟩, pm589⟩, pm590⟩, pm591⟩, pm592⟩, pm593⟩, pm594⟩, pm595⟩, pm596⟩, pm597⟩, pm598⟩, pm599⟩, pm600⟩, pm601⟩, pm602⟩, pm603⟩, pm604⟩, pm605⟩, pm606⟩, pm607⟩, pm608⟩, pm609⟩, pm610⟩, pm611⟩, pm612⟩, pm613⟩, pm614⟩, pm615⟩, pm616⟩, pm617⟩, pm618⟩, pm619⟩, pm620⟩, pm621⟩, pm622⟩, pm623⟩, pm624⟩, pm625⟩, pm626⟩, pm627⟩, pm628⟩, pm629⟩, pm630⟩, pm631⟩, pm632⟩, pm633⟩, pm634⟩, pm635⟩, pm636⟩, pm637⟩, pm638⟩, pm639⟩
  have := allPN_lt h (n - 576) (by omega)
  rw [show 576 + (n - 576) = n by omega] at this
  exact this
theorem pmul_all640 : ∀ n, 640 ≤ n → n < 704 → Pmul n := by
  intro n h1 h2
  have h : allPN (fun t => Pmul (640 + t)) 64 := ⟨⟨⟨⟨⟨⟨⟨⟨⟨⟨⟨⟨⟨⟨⟨⟨⟨⟨⟨⟨⟨⟨⟨⟨⟨⟨⟨⟨⟨⟨⟨⟨⟨⟨⟨⟨⟨⟨⟨⟨⟨⟨⟨⟨⟨⟨⟨⟨⟨⟨⟨⟨⟨⟨⟨⟨⟨⟨⟨⟨⟨⟨⟨⟨trivial, pm640⟩, pm641⟩, pm642⟩, pm643⟩, pm644⟩, pm645⟩, pm646⟩, pm647⟩, pm648⟩, pm649⟩, pm650⟩, pm651⟩, pm652⟩, pm653⟩, pm654⟩, pm655⟩, pm656⟩, pm657⟩, pm658⟩, pm659⟩, pm660⟩, pm661⟩, pm662⟩, pm663⟩, pm664⟩, pm665⟩, pm666⟩, pm667⟩, pm668⟩, pm669⟩, pm670⟩, pm671⟩, pm672⟩, pm673⟩, pm674⟩, pm675⟩, pm676⟩, pm677⟩, pm678⟩, pm679⟩, pm680⟩, pm681⟩, pm682⟩, pm683⟩, pm684⟩, pm685⟩, pm686⟩, pm687⟩, pm688⟩, pm689⟩, pm690⟩, pm691⟩, pm692⟩, pm693⟩, pm694⟩, pm695⟩, pm696⟩, pm697⟩, pm698⟩, pm699⟩, pm700⟩, pm701⟩, pm702⟩, pm703⟩
  have := allPN_lt h (n - 640) (by omega)
  rw [show 640 + (n - 640) = n by omega] at this
  exact this
theorem pmul_all704 : ∀ n, 704 ≤ n → n < 768 → Pmul n := by
  intro n h1 h2
  have h : allPN (fun t => Pmul (704 + t)) 64 := ⟨⟨⟨⟨⟨⟨⟨⟨⟨⟨⟨⟨⟨⟨⟨⟨⟨⟨⟨⟨⟨⟨⟨⟨⟨⟨⟨⟨⟨⟨⟨⟨⟨⟨⟨⟨⟨⟨⟨⟨⟨⟨⟨⟨⟨⟨⟨⟨⟨⟨⟨⟨⟨⟨⟨⟨⟨⟨⟨⟨⟨⟨⟨⟨trivial, pm704⟩, pm705⟩, pm706⟩, pm707⟩, pm708⟩, pm709⟩, pm710⟩, pm711⟩, pm712⟩, pm713⟩, pm714⟩, pm715⟩, pm716⟩, pm717⟩, pm718⟩, pm719⟩, pm720⟩, pm721⟩, pm722⟩, pm723⟩, pm724⟩, pm725⟩, pm726⟩, pm727⟩, pm728⟩, pm729⟩, pm730⟩, pm731⟩, pm732⟩, pm733⟩, pm734⟩, pm735⟩, pm736⟩, pm737⟩, pm738⟩, pm739⟩, pm740⟩, pm741⟩, pm742⟩, pm743⟩, pm744⟩, pm745⟩, pm746⟩, pm747⟩, pm748⟩, pm749⟩, pm750⟩, pm751⟩, pm752⟩, pm753⟩, pm754⟩, pm755⟩, pm756⟩, pm757⟩, pm758⟩, pm759⟩, pm760⟩, pm761⟩, pm762⟩, pm763⟩, pm764⟩, pm765⟩, pm766⟩, pm767⟩
  have := allPN_lt h (n - 704) (by omega)
  rw [show 704 + (n - 704) = n by omega] at this
  exact this
theorem pmul_all768 : ∀ n, 768 ≤ n → n < 832 → Pmul n := by
  intro n h1 h2
  have h : allPN (fun t => Pmul (768 + t)) 64 := ⟨⟨⟨⟨⟨⟨⟨⟨⟨⟨⟨⟨⟨⟨⟨⟨⟨⟨⟨⟨⟨⟨⟨⟨⟨⟨⟨⟨⟨⟨⟨⟨⟨⟨⟨⟨⟨⟨⟨⟨⟨⟨⟨⟨⟨⟨⟨⟨⟨⟨⟨⟨⟨⟨⟨⟨⟨⟨⟨⟨⟨⟨⟨⟨trivial, pm768⟩, pm769⟩, pm770⟩, pm771⟩, pm772⟩, pm773⟩, pm774⟩, pm775⟩, pm776⟩, pm777⟩, pm778⟩, pm779⟩, pm780⟩, pm781⟩, pm782⟩, pm783⟩, pm784⟩, pm785⟩, pm786⟩, pm787⟩, pm788⟩, pm789⟩, pm790⟩, pm791⟩, pm792⟩, pm793⟩, pm794⟩, pm795⟩, pm796⟩, pm797⟩, pm798⟩, pm799⟩, pm800⟩, pm801⟩, pm802⟩, pm803⟩, pm804⟩, pm805⟩, pm806⟩, pm807⟩, pm808⟩, pm809⟩, pm810⟩, pm811⟩, pm812⟩, pm813⟩, pm814⟩, pm815⟩, pm816⟩, pm817⟩, pm818⟩, pm819⟩, pm820⟩, pm821⟩, pm822⟩, pm823⟩, pm824⟩, pm825⟩, pm826⟩, pm827⟩, pm828⟩, pm829⟩, pm830⟩, pm831⟩
  have := allPN_lt h (n - 768) (by omega)
  rw [show 768 + (n - 768) = n by omega] at this
  exact this
theorem pmul_all832 : ∀ n, 832 ≤ n → n < 896 → Pmul n := by
  intro n h1 h2
  have h : allPN (fun t => Pmul (832 + t)) 64 := ⟨⟨⟨⟨⟨⟨⟨⟨⟨⟨⟨⟨⟨⟨⟨⟨⟨⟨⟨⟨⟨⟨⟨⟨⟨⟨⟨⟨⟨⟨⟨⟨⟨⟨⟨⟨⟨⟨⟨⟨⟨⟨⟨⟨⟨⟨⟨⟨⟨⟨⟨⟨⟨⟨⟨⟨⟨⟨⟨⟨⟨⟨⟨⟨trivial, pm832⟩, pm833⟩, pm834⟩, pm835⟩, pm836⟩, pm837⟩, pm838⟩, pm839⟩, pm840⟩, pm841⟩, pm842⟩, pm843⟩, pm844⟩, pm845⟩, pm846⟩, pm847⟩, pm848⟩, pm849⟩, pm850⟩, pm851⟩, pm852⟩, pm853⟩, pm854⟩, pm855⟩, pm856⟩, pm857⟩, pm858⟩, pm859⟩, pm860⟩, pm861⟩, pm862⟩, pm863⟩, pm864⟩, pm865⟩, pm866⟩, pm867⟩, pm868⟩, pm869⟩, pm870⟩, pm871⟩, pm872⟩, pm873⟩, pm874⟩, pm875⟩, pm876⟩, pm877⟩, pm878⟩, pm879⟩, pm880⟩, pm881⟩, pm882⟩, pm883⟩, pm884⟩, pm885⟩, pm886⟩, pm887⟩, pm888⟩, pm889⟩, pm890⟩, pm891⟩, pm892⟩, pm893⟩, pm894⟩, pm895⟩
  have := allPN_lt h (n - 832) (by omega)
  rw [show 832 + (n - 832) = n by omega] at this
  exact this
theorem pmul_all896 : ∀ n, 896 ≤ n → n < 960 → Pmul n := by
  intro n h1 h2
  have h : allPN (fun t => Pmul (896 + t)) 64 := ⟨⟨⟨⟨⟨⟨⟨⟨⟨⟨⟨⟨⟨⟨⟨⟨⟨⟨⟨⟨⟨⟨⟨⟨⟨⟨⟨⟨⟨⟨⟨⟨⟨⟨⟨⟨⟨⟨⟨⟨⟨⟨⟨⟨⟨⟨⟨⟨⟨⟨⟨⟨⟨⟨⟨⟨⟨⟨⟨⟨⟨⟨⟨⟨trivial, pm896⟩, pm897⟩, pm898⟩, pm899⟩, pm900⟩, pm901⟩, pm902⟩, pm903⟩, pm904⟩, pm905⟩, pm906⟩, pm907⟩, pm908⟩, pm909⟩, pm910⟩, pm911⟩, pm912⟩, pm913⟩, pm914⟩, pm915⟩, pm916⟩, pm917⟩, pm918⟩, pm919⟩, pm920⟩, pm921⟩, pm922⟩, pm923⟩, pm924⟩, pm925⟩, pm926⟩, pm927⟩, pm928⟩, pm929⟩, pm930⟩, pm931⟩, pm932⟩, pm933⟩, pm934⟩, pm935⟩, pm936⟩, pm937⟩, pm938⟩, pm939⟩, pm940⟩, pm941⟩, pm942⟩, pm943⟩, pm944⟩, pm945⟩, pm946⟩, pm947⟩, pm948⟩, pm949⟩, pm950⟩, pm951⟩, pm952⟩, pm953⟩, pm954⟩, pm955⟩, pm956⟩, pm957⟩, pm958⟩, pm959⟩
  have := allPN_lt h (n - 896) (by omega)
  rw [show 896 + (n - 896) = n by omega] at this
  exact this
theorem pmul_all960 : ∀ n, 960 ≤ n → n < 1024 → Pmul n := by
  intro n h1 h2
  have h : allPN (fun t => Pmul (960 + t)) 64 := ⟨⟨⟨⟨⟨⟨⟨⟨⟨⟨⟨⟨⟨⟨⟨⟨⟨⟨⟨⟨⟨⟨⟨⟨⟨⟨⟨⟨⟨⟨⟨⟨⟨⟨⟨⟨⟨⟨⟨⟨⟨⟨⟨⟨⟨⟨⟨⟨⟨⟨⟨⟨⟨⟨⟨⟨⟨⟨⟨⟨⟨⟨⟨⟨trivial, pm960⟩, pm961⟩, pm962⟩, pm963⟩, pm964⟩, pm965⟩, pm966⟩, pm967⟩, pm968⟩, pm969⟩, pm970⟩, pm971⟩, pm972⟩, pm973⟩, pm974⟩, pm975⟩, pm976⟩, pm977⟩, pm978⟩, pm979⟩, pm980⟩, pm981⟩, pm982⟩, pm983⟩, pm984⟩, pm985⟩, pm986⟩, pm987⟩, pm988⟩, pm989⟩, pm990⟩, pm991⟩, pm992⟩, pm993⟩, pm994⟩, pm995⟩, pm996⟩, pm997⟩, pm998⟩, pm999⟩, pm1000⟩, pm1001⟩, pm1002⟩, pm1003⟩, pm1004⟩, pm1005⟩, pm1006⟩, pm1007⟩, pm1008⟩, pm1009⟩, pm1010⟩, pm1011⟩, pm1012⟩, pm1013⟩, pm1014⟩, pm1015⟩, pm1016⟩, pm1017⟩, pm1018⟩, pm1019⟩, pm1020⟩, pm1021⟩, pm1022⟩, pm1023⟩
  have := allPN_lt h (n - 960) (by omega)
  rw [show 960 + (n - 960) = n by omega] at this
  exact this
theorem pmul_all : ∀ n, n < 1024 → Pmul n := by
  intro n h
  rcases Nat.lt_or_ge n 64 with h0 | h0
  · exact pmul_all0 n (by omega) (by omega)
  rcases Nat.lt_or_ge n 128 with h64 | h64
  · exact pmul_all64 n (by omega) (by omega)
  rcases Nat.lt_or_ge n 192 with h128 | h128
  · exact pmul_all128 n (by omega) (by omega)
  rcases Nat.lt_or_ge n 256 with h192 | h192
  · exact pmul_all192 n (by omega) (by omega)
  rcases Nat.lt_or_ge n 320 with h256 | h256
  · exact pmul_all256 n (by omega) (by omega)
  rcases Nat.lt_or_ge n 384 with h320 | h320
  · exact pmul_all320 n (by omega) (by omega)
  rcases Nat.lt_or_ge n 448 with h384 | h384
  · exact pmul_all384 n (by omega) (by omega)
  rcases Nat.lt_or_ge n 512 with h448 | h448
  · exact pmul_all448 n (by omega) (by omega)
  rcases Nat.lt_or_ge n 576 with h512 | h512
  · exact pmul_all512 n (by omega) (by omega)
  rcases Nat.lt_or_ge n 640 with h576 | h576
  · exact pmul_all576 n (by omega) (by omega)
  rcases Nat.lt_or_ge n 704 with h640 | h640
  · exact pmul_all640 n (by omega) (by omega)
  rcases Nat.lt_or_ge n 768 with h704 | h704
  · exact pmul_all704 n (by omega) (by omega)
  rcases Nat.lt_or_ge n 832 with h768 | h768
  · exact pmul_all768 n (by omega) (by omega)
  rcases Nat.lt_or_ge n 896 with h832 | h832
  · exact pmul_all832 n (by omega) (by omega)
  rcases Nat.lt_or_ge n 960 with h896 | h896
  · exact pmul_all896 n (by omega) (by omega)
  exact pmul_all960 n (by omega) (by omega)
theorem csub (n : Nat) (h : Psub n) : KCS E1.P 314 (kcon [.int .u8 (.ofNat n)] (.int .u8 (.ofNat (pkr .u8 sbN n)))) := by
  unfold Psub at h
  exact kcon_s ok1 h rfl rfl
theorem cmul (n : Nat) (h : Pmul n) : KCS E1.P 329 (kcon [.int .u8 (.ofNat (n / 256)), .int .u8 (.ofNat (n % 256))] (.int .u8 (.ofNat (pkr .u8 mtN n)))) := by
  unfold Pmul at h
  exact kcon_s ok1 h rfl rfl
theorem kcsSub : KCS E1.P 314 (sTab1 sbN) := sTab1_s fun n hn => csub n (psub_all n hn)
theorem kcsMul : KCS E1.P 329 (sTab2 4 mtN) := sTab2_s (by decide) fun n hn => cmul n (pmul_all n hn)
theorem kcsTab : KCS E1.P 324 (kcon [] (.pk .u8 256 sbN)) := by
  have h := ptab
  unfold Ptab at h
  exact kcon_s ok1 h (by kernel_rfl) rfl
end
end Go.K
