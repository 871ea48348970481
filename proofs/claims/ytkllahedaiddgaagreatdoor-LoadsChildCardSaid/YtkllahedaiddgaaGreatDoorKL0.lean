/- digests.Compress walked. No condition. -/
import Derived.Test.YtkllahedaiddgaaGreatDoorK19
import Derived.Test.YtkllahedaiddgaaGreatDoorProg
import Derived.Test.YtkllahedaiddgaaGreatDoorY5
import Derived.Test.YtkllahedaiddgaaGreatDoorK25
set_option linter.unusedSimpArgs false
set_option linter.unusedVariables false
namespace Go.K
open Go.Ab Go.RowKit Go.Y Go.Proofs
noncomputable section
def zt7:KV:=.pk .i64 2 608742554432415203373
def zzT:KV:=.pk .u32 8 41557658498906279274860226408925318911382702236748615442085426012007055353447
def zkc:KV:=.pk .u32 64 25051139735836467913601071899189108501681633092613316132753366958947502841281110980347811086624969305314199562795868290539880502533646505489797110349007385020507326982043050618112420254613810441709594605123090411975756494285771699200369901479195251226368983824020564277645963860728452821576845901498668417244438721537663670541944820957180957595559282976806173113161068298822071065329290006052849814285001949914564097058408480133985233335799884203712730341384999677089997083749077591931498939520449886954646413138343858395935213418018409268340744776361518554939863400075967197509182087778881547827184266701615699472280
noncomputable instance kgL:KGl:={ g:=fun g=>@Nat.rec (fun _=>KV) (.ref true (.arr 2 .sc) zt7) (fun g _=>@Nat.rec (fun _=>KV) (.ref true (.arr 8 .sc) zzT) (fun g _=>@Nat.rec (fun _=>KV) (.ref true (.arr 64 .sc) zkc) (fun g _=>@Nat.rec (fun _=>KV) .unk (fun _ _=>.unk) g) g) g) g,cl:=true }
noncomputable def zeV:List Nat:=[0,0,0,332389475463406317977988134114230263,91706239442657555013780257466716239001478494703,34360000495,356811933893390686280455717649318207608061943,1461501637415973510250996512550651611473023860687,730757787650985753987358621167549424929168158671,182687704708898164443529726874244856485008113663,26959946667150639794673080889714296266167260882720569225801300443087,91343857777699992724672241615555821845487288287,13483341475912246363191437260911703801593072885473575088296529231815,926336743230954828257578622095931069038032006878035292104086372839172436131839,2084321212766142015788269903591929991043767560091669381949019154565791209226231,8606711935,2305843009348961279,93,276220084479,263882794406655,4297195571,34628182271,41538374868278621028243970640379903,9223372036857004083,137506587647,19,8592048383,271,141,7,95792708989142910329061376604243977789965036834275327,1073774583,72061992354963327,7,8063,19,540727,137456255039,991,37038799604422803711,2200101192175,302526873306426839531375,137472540527,67173855,70377367674639,2163,67111111,191561942608236107294793378394393110862149704888253295,299921720784508158463,9444750982354003165039,34359738479,4294971247,67172287,264183,148726874644307769535,7,1180591911057205754814,281509341175663,4503668414025851,154742504910954561258848223,36310615593059647,19,93,549882171087,309485009821345068724871167,33571823,553648159,348449476196299211760334265167230810386423,10384752173395274090553806963605495,1527,525,157,7,33015,23,5250797,270536687,2101231,2101231,16793591,4297195571,263283,4551,2114035,4297195571,2269392008185855,31,5,67113167,287,319,5,5,7,23,32951,167772871,727,5,8317,2163,17196648447,93,5,5,2047,55610587702272942577287135,33791,9203,119,47891262074814748069066684334079751936766648886230991,4326095,1048827,100795379,255,2015,5,67376071,1,32951,89203023329438640093092255637982573676732413,72339206454118381,2113279,2251838468662267,71,32775,189,16885,3,7,127,4095,179,34359738383,2097159,8432381,33556287,7,7,3965309,65779,19,23,348449143727199444120449955377515212054515,137506063859,8247,4109,5,16781295,10995116400119,502,10995116400119,486,10995116400119,487,144116218935134199,5,147,4159,247,137438984251,593349495719726591,16777463,1179767,8388851,2684358415,17179871487,4157,18375,1043,127,255,123315,119,15,525,127,1071,268508991,263197,5,7,3871,21,4157,31,525,70368744435647,5,3,40564819207303340847931076901815,261,16908431,525255,32895,50151,285,8796093022459,2105407,1011,5,10384593871817177683247510831234831,5,5,5,19,5,1965,3703037,7,19,7,7,70368744177677,306244776809628157,550007474301,245943,5,5,39,67543,15,287,67543,15,287,18555358364663615,1,34359747191,115187,117456959,125845229,7,16777743,2147483775,23,2098143,4211,21,263063,63,31,309486190419721203025453565,15,15,297203,19,32775,87,65597,58852349,7,77,166153499473265609352030125143638015,115,16371,1073746119,1074268103,8804682991559,20829169751433159,8391,83087207854311395603287443752634311,19,19023213622105999119,22458641409078797123448399039441150152463,277,16661,66483,66483,268552123,5,13,7,3699,4147,127,1901475900342344102245055741951,77,117457395,5,31,61,1099511760637,2147516925,5,34368129779,63,79,4503668346913551,5,5,71,1055,5,16431,824633723135,1077938175,23,536872959,19,748289016719383882365272385607093028152559065366527,1152921642046133247,7881587,4339,8541,0,0,0,1193287703199244111,275951650207,262927,1085,1197427,123,3635,55411,7783419,19,2147746111,21,316912650057129970918176071667,51,13,0,0,0,5,51,67319,51,16765,93,3,0,0,0,0,0,0,0,0,0,0,0,0,0,0,0,0,0,0,0,0,0,0,0,0,0,0,0,0,0,0,0,0,0,0,0,0,0,0,0,0,0,0,0,0]
noncomputable def mdL:List Nat:=[0,0,0,1,1,1,1,1,1,1,1,1,1,1,1,0,0,1,0,0,1,0,1,1,0,1,0,1,1,1,0,0,0,1,1,1,1,1,0,1,0,0,1,1,1,1,1,1,0,0,1,1,1,1,1,1,1,1,1,1,1,0,1,0,1,0,0,0,0,1,0,0,1,0,1,0,0,0,0,0,1,1,1,0,1,0,0,1,1,1,1,0,0,0,1,1,1,0,0,1,1,1,1,1,1,1,0,1,1,0,1,0,0,0,1,1,0,1,0,0,1,1,1,1,1,1,1,0,3,3,3,1,1,1,1,0,0,0,0,1,1,1,1,1,0,0,2,0,0,0,3,0,3,0,3,0,1,1,1,0,3,0,0,1,0,1,0,1,0,0,3,1,1,0,0,1,0,1,0,0,0,0,0,0,1,0,0,1,0,1,1,1,1,1,3,1,0,0,0,1,0,0,1,0,0,0,3,1,0,1,0,3,0,2,2,2,1,1,0,3,0,3,0,0,3,0,0,1,1,0,1,0,0,3,1,1,1,0,2,3,3,3,1,3,3,1,1,1,1,0,0,1,0,0,1,1,0,0,0,1,0,2,1,2,2,1,1,0,0,3,2,2,3,0,1,0,1,1,0,0,1,1,1,1,1,0,0,1,0,1,2,1,1,1,3,1,1,1,1,1,1,1,1,0,1,0,0,0,0,3,2,1,1,2,2,2,2,1,1,1,1,2,1,0,0,0,1,1,1,1,1,0,3,1,0,1,0,1,0,1,0,1,0,1,0,1,0,1,1,0,0,1,1,1,0,0,1,1,0,1,0,0,1,1,1,0,0,1,0,0,0,0,0,0,0,0,0]
noncomputable def E0:KEnv:={ P:=Tryz.prog,ct:=fun _=>none,md:=fun f=>mdL.getD f 0,km:=fun f=>zeV.getD f 0 }
theorem zf6:FnsOk Tryz.prog:=by
 unfold FnsOk
 decide +kernel
theorem zt8:Tryz.prog.follows .mixedOrders=true:=by decide +kernel
theorem gnL (g:Nat):vJ (Gl.G g)=true:=by
 match g with
 | 0=>rfl
 | 1=>rfl
 | 2=>rfl
 | 3=>rfl
 | _ + 4=>rfl
theorem ok0:KOk E0 where
 fns:=zf6
 ct:=fun _ _ h=>(by cases h)
 gn:=gnL
 mixed:=zt8
 ex:=fun _ h=>(by cases h)
def z6 (x:KV) (f:Nat→Prop):Prop:=z8 (fun k a=>chk (xa k .i64) 300 (@Int.rec (fun _=>Prop) (fun n=>f n) (fun _=>BadN 301) a)) (BadN 302) x
theorem zu {x:KV}{f:Nat→Prop}(h:z6 x f):∃ n,x=.int .i64 (.ofNat n)∧f n:=by
 rcases zz h with ⟨k,a,rfl,h1⟩ | ⟨_,h1⟩
 ·obtain⟨h2,h3⟩:=ze h1
  obtain rfl:=zD h2
  cases a with
  | ofNat n=>exact⟨n,rfl,h3⟩
  | negSucc n=>exact (show BadN 301 from h3).elim
 ·exact h1.elim
def nI (n:Nat):KV:=.int .i64 (.ofNat n)
@[reducible] def gO:KGl:=zbZ kgL
def EO0:KEnv:={ P:=Tryz.prog,ct:=fun _=>none,md:=fun f=>mdL.getD f 0,km:=fun f=>zeV.getD f 0 }
theorem zr:@KOk gO EO0:=@KOk.mk gO EO0 zf6 (fun _ _ h=>(by cases h)) gnL zt8 (fun _ h=>(by cases h)) (fun _ _ h=>(by cases h)) (fun _ _ _ h=>(by cases h))
end
end Go.K
namespace Go.Y
open Go.Ab
def vU:List Nat:=[1116352408,1899447441,3049323471,3921009573,961987163,1508970993,2453635748,2870763221,3624381080,310598401,607225278,1426881987,1925078388,2162078206,2614888103,3248222580,3835390401,4022224774,264347078,604807628,770255983,1249150122,1555081692,1996064986,2554220882,2821834349,2952996808,3210313671,3336571891,3584528711,113926993,338241895,666307205,773529912,1294757372,1396182291,1695183700,1986661051,2177026350,2456956037,2730485921,2820302411,3259730800,3345764771,3516065817,3600352804,4094571909,275423344,430227734,506948616,659060556,883997877,958139571,1322822218,1537002063,1747873779,1955562222,2024104815,2227730452,2361852424,2428436474,2756734187,3204031479,3329325298]
def wV (k:IntKind) (a:Nat):V:=.int k (Int.ofNat a)
end Go.Y
namespace Go.Y.S
open Go.Ab
def add32 (a b:Nat):Nat:=(a + b) % 4294967296
def xor32 (a b:Nat):Nat:=(a ^^^ b) % 4294967296
def and32 (a b:Nat):Nat:=(a &&& b) % 4294967296
def or32 (a b:Nat):Nat:=(a ||| b) % 4294967296
def not32 (a:Nat):Nat:=(4294967295 ^^^ a) % 4294967296
def zpX (a k:Nat):Nat:=(a * k) % 4294967296
def Wd (a k:Nat):Nat:=a / k
def or64 (a b:Nat):Nat:=(a ||| b) % 18446744073709551616
def shl64 (a k:Nat):Nat:=(a * k) % 18446744073709551616
def to64 (a:Nat):Nat:=a % 18446744073709551616
def to32 (a:Nat):Nat:=a % 4294967296
def rot (a l r:Nat):Nat:=or32 (zpX a l) (Wd a r)
def load32 (b:Nat→Nat) (t:Nat):Nat :=
 to32 (or64 (shl64 (or64 (shl64 (or64 (shl64 (or64 0 (to64 (b (4 * t)))) 256) (to64 (b (4 * t + 1)))) 256) (to64 (b (4 * t + 2)))) 256) (to64 (b (4 * t + 3))))
def sg0 (x:Nat):Nat:=xor32 (xor32 (rot x 33554432 128) (rot x 16384 262144)) (Wd x 8)
def sg1 (y:Nat):Nat:=xor32 (xor32 (rot y 32768 131072) (rot y 8192 524288)) (Wd y 1024)
def nextW (w15 w2 w7 w16:Nat):Nat:=add32 (add32 (add32 (sg1 w2) w7) (sg0 w15)) w16
section
variable (ld:Nat→Nat) (nw:Nat→Nat→Nat→Nat→Nat)
def gS:Nat→Nat→Nat
 | 0=>fun _=>0
 | t + 1=>fun j=>bif j==t then (bif decide (t < 16) then ld t else nw (gS t (t - 15)) (gS t (t - 2)) (gS t (t - 7)) (gS t (t - 16))) else gS t j
def gL:Nat→List Nat
 | 0=>[]
 | t + 1=>(bif decide (t < 16) then ld t else nw ((gL t).getD 14 0) ((gL t).getD 1 0) ((gL t).getD 6 0) ((gL t).getD 15 0))::gL t
theorem gS_gL:∀ t j,j < t→gS ld nw t j=(gL ld nw t).getD (t - 1 - j) 0
 | 0,j,h=>by omega
 | t + 1,j,h=>by
  have ih:=gS_gL t
  by_cases hj:j=t
  ·subst hj
   simp only[gS,beq_self_eq_true,cond_true]
   rw[show j + 1 - 1 - j=0 by omega]
   simp only[gL,List.getD_cons_zero]
   by_cases h16:j < 16
   ·rw[show decide (j < 16)=true by simpa using h16,cond_true,cond_true]
   ·rw[show decide (j < 16)=false by simpa using h16,cond_false,cond_false,ih (j - 15) (by omega),ih (j - 2) (by omega),ih (j - 7) (by omega),ih (j - 16) (by omega)]
    rw[show j - 1 - (j - 15)=14 by omega,show j - 1 - (j - 2)=1 by omega,show j - 1 - (j - 7)=6 by omega,show j - 1 - (j - 16)=15 by omega]
  ·simp only[gS]
   rw[show (j==t)=false by simpa using hj,cond_false,ih j (by omega)]
   simp only[gL]
   rw[show t + 1 - 1 - j=(t - 1 - j) + 1 by omega,List.getD_cons_succ]
end
def wS (b:Nat→Nat):Nat→Nat→Nat:=gS (load32 b) nextW
def sched (b:Nat→Nat) (j:Nat):Nat:=(gL (load32 b) nextW 64).getD (63 - j) 0
theorem wS_sched (b:Nat→Nat) (j:Nat) (h:j < 64):wS b 64 j=sched b j:=gS_gL _ _ 64 j h
theorem wS_lo (b:Nat→Nat) (t:Nat) (h:t < 16):wS b (t + 1)=fun j=>bif j==t then load32 b t else wS b t j:=by
 funext j
 simp only[wS,gS]
 rw[show decide (t < 16)=true by simpa using h,cond_true]
theorem wS_hi (b:Nat→Nat) (t:Nat) (h:16≤t):wS b (t + 1)=fun j=>bif j==t then nextW (wS b t (t - 15)) (wS b t (t - 2)) (wS b t (t - 7)) (wS b t (t - 16)) else wS b t j:=by
 funext j
 simp only[wS,gS]
 rw[show decide (t < 16)=false by simpa using h,cond_false]
structure St where
 a:Nat
 b:Nat
 c:Nat
 d:Nat
 e:Nat
 f:Nat
 g:Nat
 h:Nat
def big1 (e:Nat):Nat:=xor32 (xor32 (rot e 67108864 64) (rot e 2097152 2048)) (rot e 128 33554432)
def big0 (a:Nat):Nat:=xor32 (xor32 (rot a 1073741824 4) (rot a 524288 8192)) (rot a 1024 4194304)
def ch (e f g:Nat):Nat:=xor32 (and32 e f) (and32 (not32 e) g)
def maj (a b c:Nat):Nat:=xor32 (xor32 (and32 a b) (and32 a c)) (and32 b c)
def t1 (s:St) (k w:Nat):Nat:=add32 (add32 (add32 (add32 s.h (big1 s.e)) (ch s.e s.f s.g)) k) w
def t2 (s:St):Nat:=add32 (big0 s.a) (maj s.a s.b s.c)
def rnd (k w:Nat) (s:St):St:=⟨add32 (t1 s k w) (t2 s),s.a,s.b,s.c,add32 s.d (t1 s k w),s.e,s.f,s.g⟩
def rounds (w:Nat→Nat) (s:St):Nat→St
 | 0=>s
 | t + 1=>rnd (vU.getD t 0) (w t) (rounds w s t)
def St.get (s:St) (j:Nat):Nat:=[s.a,s.b,s.c,s.d,s.e,s.f,s.g,s.h].getD j 0
def stOf (h:Nat→Nat):St:=⟨h 0,h 1,h 2,h 3,h 4,h 5,h 6,h 7⟩
def comp (h b:Nat→Nat) (j:Nat):Nat:=add32 (h j) ((rounds (sched b) (stOf h) 64).get j)
end Go.Y.S
namespace Go.Y.S
def accS (h x:Nat→Nat):Nat→Nat→Nat
 | 0=>h
 | t + 1=>fun j=>bif j==t then add32 (accS h x t t) (x t) else accS h x t j
theorem ze6 (h x:Nat→Nat):∀ t j,t≤j→accS h x t j=h j
 | 0,j,_=>rfl
 | t + 1,j,hj=>by
  simp only[accS]
  rw[show (j==t)=false by simp; omega,cond_false,ze6 h x t j (by omega)]
theorem accS_lt (h x:Nat→Nat):∀ t j,j < t→accS h x t j=add32 (h j) (x j)
 | 0,j,hj=>by omega
 | t + 1,j,hj=>by
  simp only[accS]
  by_cases e:j=t
  ·subst e
   rw[show (j==j)=true by simp,cond_true,ze6 h x j j (Nat.le_refl _)]
  ·rw[show (j==t)=false by simpa using e,cond_false,accS_lt h x t j (by omega)]
end Go.Y.S
namespace Go.Y.R
open Go.Y.S
def add64 (a b:Nat):Nat:=(a + b) % 18446744073709551616
def rot (a l r:Nat):Nat:=or32 (Wd a r) (zpX a l)
def load32 (b:Nat→Nat) (t:Nat):Nat :=
 to32 (add64 (shl64 (add64 (shl64 (add64 (shl64 (add64 (shl64 0 256) (to64 (b (4 * t)))) 256) (to64 (b (4 * t + 1)))) 256) (to64 (b (4 * t + 2)))) 256) (to64 (b (4 * t + 3))))
def sg0 (x:Nat):Nat:=xor32 (xor32 (rot x 33554432 128) (rot x 16384 262144)) (Wd x 8)
def sg1 (y:Nat):Nat:=xor32 (xor32 (rot y 32768 131072) (rot y 8192 524288)) (Wd y 1024)
def nextW (w15 w2 w7 w16:Nat):Nat:=add32 (add32 (add32 w16 w7) (sg0 w15)) (sg1 w2)
def wS (b:Nat→Nat):Nat→Nat→Nat:=gS (load32 b) nextW
def sched (b:Nat→Nat) (j:Nat):Nat:=(gL (load32 b) nextW 64).getD (63 - j) 0
theorem wS_sched (b:Nat→Nat) (j:Nat) (h:j < 64):wS b 64 j=sched b j:=gS_gL _ _ 64 j h
theorem wS_lo (b:Nat→Nat) (t:Nat) (h:t < 16):wS b (t + 1)=fun j=>bif j==t then load32 b t else wS b t j:=by
 funext j
 simp only[wS,gS]
 rw[show decide (t < 16)=true by simpa using h,cond_true]
theorem wS_hi (b:Nat→Nat) (t:Nat) (h:16≤t):wS b (t + 1)=fun j=>bif j==t then nextW (wS b t (t - 15)) (wS b t (t - 2)) (wS b t (t - 7)) (wS b t (t - 16)) else wS b t j:=by
 funext j
 simp only[wS,gS]
 rw[show decide (t < 16)=false by simpa using h,cond_false]
def big1 (e:Nat):Nat:=xor32 (xor32 (rot e 67108864 64) (rot e 2097152 2048)) (rot e 128 33554432)
def big0 (a:Nat):Nat:=xor32 (xor32 (rot a 1073741824 4) (rot a 524288 8192)) (rot a 1024 4194304)
def ch (e f g:Nat):Nat:=or32 (and32 e f) (and32 (not32 e) g)
def maj (a b c:Nat):Nat:=or32 (or32 (and32 a b) (and32 a c)) (and32 b c)
def t1 (s:St) (k w:Nat):Nat:=add32 (add32 (add32 (add32 s.h (big1 s.e)) (ch s.e s.f s.g)) k) w
def t2 (s:St):Nat:=add32 (big0 s.a) (maj s.a s.b s.c)
def rnd (k w:Nat) (s:St):St:=⟨add32 (t1 s k w) (t2 s),s.a,s.b,s.c,add32 s.d (t1 s k w),s.e,s.f,s.g⟩
def rounds (w:Nat→Nat) (s:St):Nat→St
 | 0=>s
 | t + 1=>rnd (vU.getD t 0) (w t) (rounds w s t)
def comp (h b:Nat→Nat) (j:Nat):Nat:=add32 (h j) ((rounds (sched b) (stOf h) 64).get j)
end Go.Y.R
set_option maxRecDepth 100000
namespace Go.K
open Go.Ab Go.RowKit Go.Y Go.Proofs
noncomputable section
attribute [local instance 10000] gO
noncomputable def kcO (n:Nat):Code:=match Tryz.prog.funcs[n]? with
 | some fn=>match fn.body with
  | some c=>c
  | none=>.skip
 | none=>.skip
noncomputable def krO (n:Nat):List ResultVar:=match Tryz.prog.funcs[n]? with
 | some fn=>fn.results.toList
 | none=>[]
noncomputable def kmO (n:Nat):Nat:=zeV.getD n 0
abbrev KQ:=Exit→List KV→List (Option KBlk)→Nat→Prop
def kpc (E:KEnv) (f:Nat) (l:List Code) (lt li:List Nat) (s:LS) (Q:KQ) (R:KV→Prop):Prop:=kpre E 60 (kmO f) l (vj s.1) (vK s.2.1) s.2.2 0 (zfw Tryz.prog (krO f) lt li Q fun v _ _=>R v)
noncomputable def f32 (n:Nat) (f:Nat→Nat):KV:=.fa n fun i=>.int .u32 (.ofNat (f i))
noncomputable def f8 (n:Nat) (f:Nat→Nat):KV:=.fa n fun i=>.int .u8 (.ofNat (f i))
noncomputable def bW (t n:Nat) (v:KV):KBlk:=⟨.box t,.arr n .sc,v⟩
noncomputable def zl (id n:Nat):KV:=.ptr id [] (.arr n .sc)
noncomputable def lpc (c:Code):List Code:=fl (lpB (blB c))
noncomputable def lsP (n:Nat) (f:Nat→Prop):List Prop:=@Nat.rec (fun _=>Nat→List Prop) (fun _=>[]) (fun _ ih i=>f i::ih (Nat.succ i)) n 0
theorem Yw {f:Nat→Prop}:∀ {n a i:Nat},i < n→(@Nat.rec (fun _=>Nat→List Prop) (fun _=>[]) (fun _ ih i=>f i::ih (Nat.succ i)) n a:List Prop).getD i True=f (a + i)
 | n + 1,a,0,h=>rfl
 | n + 1,a,i + 1,h=>(Yw (n:=n) (a:=Nat.succ a) (i:=i) (by omega)).trans (by rw[show Nat.succ a + i=a + (i + 1) by omega])
theorem zjR {n:Nat}{f g:Nat→Prop}(h:lsP n f=lsP n g) {i:Nat}(hi:i < n):f i=g i:=by
 have h1:=congrArg (fun l=>l.getD i True) h
 have h2:(lsP n f).getD i True=f (0 + i):=Yw hi
 have h3:(lsP n g).getD i True=g (0 + i):=Yw hi
 rw[Nat.zero_add] at h2 h3
 exact h2.symm.trans (h1.trans h3)
noncomputable def Z4:List Code:=fl (kcO 298)
noncomputable def znd:KBlk:=bW 329 64 (.ar 64 (.int .u32 (.ofNat 0)) .te)
noncomputable def zbl (w:Nat→Nat) (t x:Nat):KBlk:=bW 329 64 (.fa 64 fun j=>ifN j t (.int .u32 (.ofNat x)) (.int .u32 (.ofNat (w j))))
noncomputable def kA (k:IntKind) (n:Nat) (f:Nat→Nat):KV:=.ar n (.int k (.ofNat 0)) (@Nat.rec (fun _=>KV) .te (fun i t=>xD (.int k (.ofNat (f i))) (enc i) t) n)
theorem QY {k:IntKind}{f:Nat→Nat}{z:V}:∀ {n i:Nat},i < n→KV.atv (@Nat.rec (fun _=>KV) .te (fun i t=>xD (.int k (.ofNat (f i))) (enc i) t) n) (enc i) z=wV k (f i)
 | 0,i,h=>absurd h (by omega)
 | n + 1,i,h=>by
  show (xD (.int k (.ofNat (f n))) (enc n) (@Nat.rec (fun _=>KV) .te (fun i t=>xD (.int k (.ofNat (f i))) (enc i) t) n)).atv (enc i) z=_
  rw[jD]
  by_cases e:i=n
  ·rw[if_pos e,e]; rfl
  ·rw[if_neg e]; exact QY (by omega)
theorem Yo {k:IntKind}{n:Nat}{f:Nat→Nat}{g:Nat→V}(h:∀ i,i < n→g i=wV k (f i)):Imp (.arr n g) (kA k n f).v:=Imp.arrE fun i hi=>by rw[h i hi]; exact (QY hi).symm
theorem zjc {k:IntKind}{n:Nat}{f:Nat→Nat}{g:Nat→V}(h:∀ i,i < n→wV k (f i)=g i):Imp (kA k n f).v (.arr n g):=Imp.arrE fun i hi=>(QY hi).trans (h i hi)
theorem ZV {k:IntKind}{n:Nat}{f g:Nat→Nat}(h:∀ i,i < n→f i=g i):Imp (kA k n f).v (kA k n g).v:=Imp.arrE fun i hi=>(QY hi).trans ((congrArg (wV k) (h i hi)).trans (QY hi).symm)
theorem zpe {k:IntKind}{n:Nat}{f g:Nat→Nat}(h:∀ i,i < n→f i=g i):Imp (KV.fa n fun i=>.int k (.ofNat (f i))).v (kA k n g).v:=Yo (g:=fun i=>wV k (f i)) fun i hi=>congrArg (wV k) (h i hi)
theorem FzP.imp {zm:KZ}{v w:KV}(hn:zA v.v=true) (h:Imp v.v w.v):FzP false zm v w:=fun B C M _ _ m hr=>h _ _ (R.noref _ hn hr)
section
variable {F:List Nat}{ρ:Nat→Nat}{nx:Nat}{zm:KZ}
theorem xi {μ:Mem}{n2 b:Nat}{s:Shape}(h:b < n2):RnV μ [] id n2 (KV.ptr b [] s).v (KV.ptr b [] s).v:=(RnB.ptr rfl h).v
theorem x7 {μ:Mem}{n2:Nat}(v:KV) (h:zS 0 v=true):RnV μ [] id n2 v.v v.v:=(RnF.nf (jm 0 v h).1).b.v
theorem qX {b1 b:KBlk}(h1:b1.k=b.k) (h2:b1.sh=b.sh) (hi:Imp b1.v.v b.v.v) (hw:RnB (am zm) F ρ nx b.v.v b.v.v):RnK F ρ nx zm (some b1) b:=RnK.mk' h1 h2 fun B H C M q1 q2 q3 m hm=>hw B H C M q1 q2 q3 m (hi C m hm)
theorem y8 {n:Nat}{f:Nat→Nat}:RnB (am zm) F ρ nx (f32 n f).v (f32 n f).v:=RnB.arr fun i hi=>nfB (v:=.int .u32 (.ofNat (f i))) rfl
end
noncomputable def zbe (b:Nat→Nat):KBlk:=bW 374 64 (kA .u8 64 b)
noncomputable def Yp (b w:Nat→Nat) (t:Nat):LS:=([(1,zl 0 64),(2,zl 1 64),(9,nI t)],[(0,zbe b),(1,bW 329 64 (f32 64 w))],2)
def zpf (b:Nat→Nat) (Q:KQ) (R:KV→Prop):Prop:=kpc EO0 298 (Z4.take 2) [1,2,9] [0,1] (z7 (kmO 298) 0 [kA .u8 64 b],[],0) Q R
theorem zx4 (b:Nat→Nat) (Q:KQ) (R:KV→Prop):zpf b Q R=Q .normal [zl 0 64,zl 1 64,nI 0] [some (zbe b),some znd] 2:=by kernel_rfl
def zjd (b w:Nat→Nat) (t:Nat) (Q:KQ) (R:KV→Prop):Prop:=kpc EO0 298 (lpc (Z4.getD 2 .skip)) [1,2,9] [0,1] (Yp b w t) Q R
theorem zx5 (b w:Nat→Nat) (Q:KQ) (R:KV→Prop):lsP 16 (fun t=>zjd b w t Q R)=lsP 16 (fun t=>Q .normal [zl 0 64,zl 1 64,nI (Nat.add t 1)] [some (zbe b),some (zbl w t (S.load32 b t))] 2):=by kernel_rfl
theorem zsQ (b w:Nat→Nat) (Q:KQ) (R:KV→Prop):zjd b w 16 Q R=Q (.exit 0) [zl 0 64,zl 1 64,nI 16] [some (zbe b),some (bW 329 64 (f32 64 w))] 2:=by kernel_rfl
noncomputable def QZ (w:Nat→Nat) (t:Nat):LS:=([(2,zl 0 64),(4,nI t)],[(0,bW 329 64 (f32 64 w))],1)
def zpg (b w:Nat→Nat) (Q:KQ) (R:KV→Prop):Prop:=kpc EO0 298 ((Z4.drop 3).take 1) [2,4] [1] (Yp b w 16) Q R
theorem zx6 (b w:Nat→Nat) (Q:KQ) (R:KV→Prop):zpg b w Q R=Q .normal [zl 1 64,nI 16] [some (bW 329 64 (f32 64 w))] 2:=by kernel_rfl
def zew (w:Nat→Nat) (t:Nat) (Q:KQ) (R:KV→Prop):Prop:=kpc EO0 298 (lpc (Z4.getD 4 .skip)) [2,4] [0] (QZ w t) Q R
theorem zx7 (w:Nat→Nat) (Q:KQ) (R:KV→Prop):lsP 48 (fun k=>zew w (Nat.add 16 k) Q R)=lsP 48 (fun k=>Q .normal [zl 0 64,nI (Nat.add (Nat.add 16 k) 1)] [some (zbl w (Nat.add 16 k) (S.nextW (w (Nat.add 1 k)) (w (Nat.add 14 k)) (w (Nat.add 9 k)) (w k)))] 1):=by kernel_rfl
theorem zsR (w:Nat→Nat) (Q:KQ) (R:KV→Prop) {k:Nat}(hk:k < 48):zew w (Nat.add 16 k) Q R=Q .normal [zl 0 64,nI (Nat.add (Nat.add 16 k) 1)] [some (zbl w (Nat.add 16 k) (S.nextW (w (Nat.add 1 k)) (w (Nat.add 14 k)) (w (Nat.add 9 k)) (w k)))] 1:=zjR (zx7 w Q R) hk
theorem zsS (w:Nat→Nat) (Q:KQ) (R:KV→Prop):zew w 64 Q R=Q (.exit 2) [zl 0 64,nI 64] [some (bW 329 64 (f32 64 w))] 1:=by kernel_rfl
noncomputable def zje (w:Nat→Nat):LS:=([(2,zl 0 64)],[(0,bW 329 64 (kA .u32 64 w))],1)
def zph (w:Nat→Nat) (Q:KQ) (R:KV→Prop):Prop:=kpc EO0 298 (Z4.drop 5) [] [] (zje w) Q R
theorem zx8 (w:Nat→Nat) (Q:KQ) (R:KV→Prop):zph w Q R=R (kA .u32 64 w):=by kernel_rfl
attribute [local irreducible] kpre kcO kmO krO JL zj Z4 S.nextW S.load32
theorem zx9:Tryz.f298.ntmps=72:=by kernel_rfl
theorem zya:Tryz.f298.results.toList=krO 298:=by kernel_rfl
theorem zyb:fl (kcO 298)=Z4:=by kernel_rfl
theorem zjf (b:Nat→Nat):zS 0 (zbe b).v=true:=by kernel_rfl
theorem zjg {w w':Nat→Nat}{t x:Nat}(h:∀ j,j < 64→w' j=if j=t then x else w j):Imp (zbl w t x).v.v (f32 64 w').v:=Imp.arr fun j hj=>by
 show Imp (ifN j t (.int .u32 (.ofNat x)) (.int .u32 (.ofNat (w j)))).v (KV.int .u32 (.ofNat (w' j))).v
 rw[jp,h j hj]
 split<;>exact Imp.refl _
section
variable {b w w':Nat→Nat}{t x:Nat}{tr:KTm}{zm:KZ}
theorem zsT (ht:[1,2,9].map (zn tr)=[zl 0 64,zl 1 64,nI 0]) (hz:[0,1].map (kb zm)=[some (zbe b),some znd]):atS (kmO 298) (Yp b (fun _=>0) 0) tr zm :=
 atS.of (s:=Yp b (fun _=>0) 0) [] id ht hz (by kernel_rfl) ⟨xi (ltk rfl),xi (ltk rfl),x7 _ rfl,trivial⟩ ⟨RnK.nf (zjf b),qX rfl rfl (Imp.arrE fun i hi=>rfl) y8,trivial⟩
theorem zyc (h:∀ j,j < 64→w' j=if j=t then x else w j) (ht:[1,2,9].map (zn tr)=[zl 0 64,zl 1 64,nI (Nat.add t 1)]) (hz:[0,1].map (kb zm)=[some (zbe b),some (zbl w t x)]):atS (kmO 298) (Yp b w' (t + 1)) tr zm :=
 atS.of (s:=Yp b w' (t + 1)) [] id ht hz (by kernel_rfl) ⟨xi (ltk rfl),xi (ltk rfl),x7 _ rfl,trivial⟩ ⟨RnK.nf (zjf b),qX rfl rfl (zjg h) y8,trivial⟩
theorem zsU (ht:[1,2,9].map (zn tr)=[zl 0 64,zl 1 64,nI 16]) (hz:[0,1].map (kb zm)=[some (zbe b),some (bW 329 64 (f32 64 w))]):atS (kmO 298) (Yp b w 16) tr zm :=
 atS.of (s:=Yp b w 16) [] id ht hz (by kernel_rfl) ⟨xi (ltk rfl),xi (ltk rfl),x7 _ rfl,trivial⟩ ⟨RnK.nf (zjf b),RnK.mk' rfl rfl y8,trivial⟩
theorem zsV (ht:[2,4].map (zn tr)=[zl 1 64,nI 16]) (hz:[1].map (kb zm)=[some (bW 329 64 (f32 64 w))]):atS (kmO 298) (QZ w 16) tr zm :=
 atS.of (s:=QZ w 16) [] (fun _=>1) ht hz (by kernel_rfl) ⟨(show RnB (am zm) [] (fun _=>1) 1 (V.ptr 1 [] (.arr 64 .sc)) (V.ptr 0 [] (.arr 64 .sc)) from RnB.ptr rfl (ltk rfl)).v,(nfB (v:=nI 16) rfl).v,trivial⟩ ⟨RnK.mk' rfl rfl y8,trivial⟩
theorem zsW (h:∀ j,j < 64→w' j=if j=t then x else w j) (ht:[2,4].map (zn tr)=[zl 0 64,nI (Nat.add t 1)]) (hz:[0].map (kb zm)=[some (zbl w t x)]):atS (kmO 298) (QZ w' (t + 1)) tr zm :=
 atS.of (s:=QZ w' (t + 1)) [] id ht hz (by kernel_rfl) ⟨xi (ltk rfl),x7 _ rfl,trivial⟩ ⟨qX rfl rfl (zjg h) y8,trivial⟩
theorem zyd {F:List Nat}{ρ:Nat→Nat}{nx:Nat}{k:IntKind}{n:Nat}{f:Nat→Nat}:RnB (am zm) F ρ nx (kA k n f).v (kA k n f).v:=RnB.arr fun i hi=>by
 show RnB (am zm) F ρ nx (KV.atv _ (enc i) _) (KV.atv _ (enc i) _)
 rw[QY hi]
 exact nfB (v:=.int k (.ofNat (f i))) rfl
theorem zsX (h:∀ j,j < 64→w j=w' j) (ht:[2,4].map (zn tr)=[zl 0 64,nI 64]) (hz:[0].map (kb zm)=[some (bW 329 64 (f32 64 w))]):atS (kmO 298) (zje w') tr zm:=by
 have h2:[2].map (zn tr)=[zl 0 64]:=congrArg (fun l=>l.take 1) ht
 exact atS.of (s:=zje w') [] id h2 hz (by kernel_rfl) ⟨xi (ltk rfl),trivial⟩ ⟨qX rfl rfl (zpe h) zyd,trivial⟩
end
theorem Yq (j t a b:Nat):(bif j==t then a else b)=if j=t then a else b:=by
 by_cases e:j=t
 ·rw[if_pos e,show (j==t)=true by simpa using e]; rfl
 ·rw[if_neg e,show (j==t)=false by simpa using e]; rfl
theorem zCR (b:Nat→Nat):JFn Tryz.prog 298 false [kA .u8 64 b] (kA .u32 64 (S.sched b)):=by
 refine JFn.of (P:=Tryz.prog) zr rfl (c:=kcO 298) (kmO 298) Tryz.func298 (by kernel_rfl) fun B N hN=>?_
 rw[zx9] at hN
 rw[zyb]
 refine JL.stp (n:=60) (s:=(z7 (kmO 298) 0 [kA .u8 64 b],[],0)) zr rfl 2 (krO 298) [1,2,9] [0,1] hN (by kernel_rfl) (by kernel_rfl) (fun v=>False) (fun v tr zm nx h1 h2 h3 h4=>h1.elim) ?_
 show zpf b _ _
 rw[zx4]
 intro tr zm ht hz hmb hi
 refine JL.loopT zr (fun t=>Yp b (S.wS b t) t) (fun t=>16 - t) (fun t=>t≤16) (id:=0) (b:=lpB (blB (Z4.getD 2 .skip))) (l2:=Z4.drop 3) (by kernel_rfl) (fun t=>by kernel_rfl) 0 (Nat.zero_le _) (zsT ht hz) hmb hi ?_
 intro t ht16
 refine JL.all (n:=60) zr rfl (krO 298) [1,2,9] [0,1] hN (by kernel_rfl) (by kernel_rfl) (fun v=>False) (fun v tr zm nx h1 h2 h3 h4=>h1.elim) ?_
 show zjd b (S.wS b t) t _ _
 rcases Nat.lt_or_ge t 16 with h | h
 ·rw[zjR (zx5 b (S.wS b t) _ _) h]
  intro tr zm ht hz hmb hi
  refine⟨t + 1,by omega,by omega,zyc (fun j hj=>?_) ht hz⟩
  rw[S.wS_lo b t h]
  exact Yq _ _ _ _
 ·obtain rfl:t=16:=by omega
  rw[zsQ]
  intro tr zm ht hz hmb hi
  show (if (0:Nat)=0 then JL EO0 B N (kmO 298) (Z4.drop 3) tr zm 2 _ else _)
  rw[if_pos rfl]
  refine JL.preS zr (zsU ht hz) (vp (by kernel_rfl)) ?_
  refine JL.stp (n:=60) zr rfl 1 (krO 298) [2,4] [1] hN (by kernel_rfl) (by kernel_rfl) (fun v=>False) (fun v tr zm nx h1 h2 h3 h4=>h1.elim) ?_
  show zpg b (S.wS b 16) _ _
  rw[zx6]
  intro tr zm ht hz hmb hi
  show JL EO0 B N (kmO 298) ((Z4.drop 3).drop 1) tr zm 2 _
  rw[List.drop_drop]
  refine JL.loopT zr (fun t=>QZ (S.wS b t) t) (fun t=>64 - t) (fun t=>16≤t∧t≤64) (id:=2) (b:=lpB (blB (Z4.getD 4 .skip))) (l2:=Z4.drop 5) (by kernel_rfl) (fun t=>by kernel_rfl) 16 ⟨by omega,by omega⟩ (zsV ht hz) hmb hi ?_
  rintro t ⟨ha,hb⟩
  refine JL.all (n:=60) zr rfl (krO 298) [2,4] [0] hN (by kernel_rfl) (by kernel_rfl) (fun v=>False) (fun v tr zm nx h1 h2 h3 h4=>h1.elim) ?_
  show zew (S.wS b t) t _ _
  rcases Nat.lt_or_ge t 64 with h | h
  ·obtain⟨k,rfl⟩:∃ k,t=Nat.add 16 k:=⟨t - 16,by show t=16 + (t - 16); omega⟩
   have hk:k < 48:=by have h':16 + k < 64:=h; omega
   rw[zsR _ _ _ hk]
   intro tr zm ht hz hmb hi
   refine⟨Nat.add 16 k + 1,by omega,by omega,zsW (fun j hj=>?_) ht hz⟩
   rw[S.wS_hi b (Nat.add 16 k) ha]
   have e1:Nat.add 16 k - 15=Nat.add 1 k:=by show 16 + k - 15=1 + k; omega
   have e2:Nat.add 16 k - 2=Nat.add 14 k:=by show 16 + k - 2=14 + k; omega
   have e3:Nat.add 16 k - 7=Nat.add 9 k:=by show 16 + k - 7=9 + k; omega
   have e4:Nat.add 16 k - 16=k:=by show 16 + k - 16=k; omega
   rw[e1,e2,e3,e4]
   exact Yq _ _ _ _
  ·obtain rfl:t=64:=by omega
   rw[zsS]
   intro tr zm ht hz hmb hi
   show (if (2:Nat)=2 then JL EO0 B N (kmO 298) (Z4.drop 5) tr zm 1 _ else _)
   rw[if_pos rfl]
   refine JL.preS zr (zsX (w':=S.sched b) (fun j hj=>S.wS_sched b j hj) ht hz) (vp (by kernel_rfl)) ?_
   refine JL.all (n:=60) zr rfl (krO 298) [] [] hN (by kernel_rfl) (by kernel_rfl) (fun v=>v=kA .u32 64 (S.sched b)) (fun v tr zm nx h1 h2 h3 h4=>by subst h1; exact retJ.mk rfl zya (FzP.noref (by kernel_rfl)) h4) ?_
   show zph (S.sched b) _ _
   rw[zx8]
noncomputable def zye:zh:=xM (fun b:Nat→Nat=>[kA .u8 64 b]) (fun _=>True) fun b=>kA .u32 64 (S.sched b)
theorem zCS:KCS Tryz.prog 298 zye:=Xn ⟨Tryz.f298,Tryz.func298,by kernel_rfl,by kernel_rfl⟩ fun b _=>zCR b
end
end Go.K
set_option maxRecDepth 100000
namespace Go.K
open Go.Ab Go.RowKit Go.Y Go.Proofs
noncomputable section
attribute [local instance 10000] gO
def pwL:List Nat:=[1,2,4,8,16,32,64,128,256,512,1024,2048,4096,8192,16384,32768,65536,131072,262144,524288,1048576,2097152,4194304,8388608,16777216,33554432,67108864,134217728,268435456,536870912,1073741824,2147483648,4294967296]
noncomputable def zuA (n x:Nat):Nat:=S.rot x (pwL.getD (Nat.sub 32 n) 0) (pwL.getD n 0)
noncomputable def zuB (n x:Nat):Nat:=R.rot x (pwL.getD (Nat.sub 32 n) 0) (pwL.getD n 0)
def zAm (x:KV) (f:Nat→Prop):Prop:=z8 (fun k a=>chk (xa k .u32) 300 (@Int.rec (fun _=>Prop) (fun n=>f n) (fun _=>BadN 301) a)) (BadN 302) x
theorem zuC {x:KV}{f:Nat→Prop}(h:zAm x f):∃ n,x=.int .u32 (.ofNat n)∧f n:=by
 rcases zz h with ⟨k,a,rfl,h1⟩ | ⟨_,h1⟩
 ·obtain⟨h2,h3⟩:=ze h1
  obtain rfl:=zD h2
  cases a with
  | ofNat n=>exact⟨n,rfl,h3⟩
  | negSucc n=>exact (show BadN 301 from h3).elim
 ·exact h1.elim
def kl2 (l:List KV) (f:KV→KV→Prop):Prop:=match l with
 | [a,b]=>f a b
 | _=>False
theorem zAn {l:List KV}{f:KV→KV→Prop}(h:kl2 l f):∃ a b,l=[a,b]∧f a b:=by
 unfold kl2 at h
 split at h
 ·exact⟨_,_,rfl,h⟩
 ·exact h.elim
def JG:List Nat:=[2,6,7,11,13,17,18,19,22,25]
noncomputable def zbr (g:Nat→Nat→Nat):zh:=fun l K=>kl2 l fun a b=>zAm a fun x=>z6 b fun n=>cnd (JG.any (Nat.beq n)) (K (.int .u32 (.ofNat (g n x))))
def zEN (x n:Nat) (K:KV→Prop):Prop:=zi EO0 (zj EO0 60) 0 299 [.int .u32 (.ofNat x),nI n] .e 0 0 fun r _ _ _=>K r
def zEO (x n:Nat) (K:KV→Prop):Prop:=zi EO0 (zj EO0 60) 0 246 [.int .u32 (.ofNat x),nI n] .e 0 0 fun r _ _ _=>K r
theorem wQ {l:List Nat}{f g:Nat→Prop}(h:l.map f=l.map g) {n:Nat}(hn:n∈l):f n=g n:=List.map_inj_left.1 h n hn
theorem zEP (x:Nat) (K:KV→Prop):JG.map (fun n=>zEN x n K)=JG.map (fun n=>K (.int .u32 (.ofNat (zuA n x)))):=by kernel_rfl
theorem zEQ (x:Nat) (K:KV→Prop):JG.map (fun n=>zEO x n K)=JG.map (fun n=>K (.int .u32 (.ofNat (zuB n x)))):=by kernel_rfl
theorem zAo {f:Nat}{g:Nat→Nat→Nat}(hf:∃ fn,Tryz.prog.funcs[f]?=some fn∧(fn.name == "runtime.NumGoroutine")=false∧fn.body.isNone=false)
  (h:∀ x n (K:KV→Prop),n∈JG→zi EO0 (zj EO0 60) 0 f [.int .u32 (.ofNat x),nI n] .e 0 0 (fun r _ _ _=>K r)=K (.int .u32 (.ofNat (g n x)))):KCS Tryz.prog f (zbr g):=xm hf fun l K hs=>by
 obtain⟨a,b,rfl,h1⟩:=zAn hs
 obtain⟨x,rfl,h2⟩:=zuC h1
 obtain⟨n,rfl,h3⟩:=zu h2
 obtain⟨h4,h5⟩:=za.1 h3
 have hn:n∈JG:=by
  obtain⟨y,h6,h7⟩:=List.any_eq_true.1 h4
  rw[Nat.eq_of_beq_eq_true h7]; exact h6
 exact⟨EO0,zr,rfl,60,fun r=>r=.int .u32 (.ofNat (g n x)),_,h5,rfl,fun r hr=>by rw[hr]; exact Imp.refl _,Eq.mpr (h x n _ hn) rfl⟩
theorem znJ:KCS Tryz.prog 299 (zbr zuA):=zAo ⟨Tryz.f299,Tryz.func299,by kernel_rfl,by kernel_rfl⟩ fun x n K hn=>wQ (zEP x K) hn
theorem znK:KCS Tryz.prog 246 (zbr zuB):=zAo ⟨Tryz.f246,Tryz.func246,by kernel_rfl,by kernel_rfl⟩ fun x n K hn=>wQ (zEQ x K) hn
noncomputable def wk:KEnv:=EO0.tab [(298,zye),(299,zbr zuA)]
theorem jz:KOk wk:=zr.tab ⟨zCS,znJ,trivial⟩
noncomputable def yp:List Code:=fl (kcO 276)
noncomputable def b8K (f:Nat→Nat):KBlk:=bW 330 8 (kA .u32 8 f)
noncomputable def z8K:KBlk:=bW 330 8 (.ar 8 (.int .u32 (.ofNat 0)) .te)
noncomputable def zkV:KV:=zkc
noncomputable def zdb (t:Nat):List KV:=[zl 0 8,zl 1 8,zl 2 64,zl 3 8,zkV,nI t]
noncomputable def Z8 (h w:Nat→Nat) (s:S.St) (t:Nat):LS:=([(2,zl 0 8),(4,zl 1 8),(5,zl 2 64),(6,zl 3 8),(17,zkV),(18,nI t)],[(0,b8K h),(1,z8K),(2,bW 329 64 (kA .u32 64 w)),(3,b8K s.get)],4)
def zp7 (h b:Nat→Nat) (Q:KQ) (R:KV→Prop):Prop:=kpc wk 276 (yp.take 4) [2,4,5,6,17,18] [0,2,3,4] (z7 (kmO 276) 0 [kA .u32 8 h,kA .u8 64 b],[],0) Q R
theorem zAS (h b:Nat→Nat) (Q:KQ) (R:KV→Prop):zp7 h b Q R=∃ x:Nat→Nat,[kA .u8 64 b]=[kA .u8 64 x]∧True∧Q .normal [zl 0 8,zl 2 8,zl 3 64,zl 4 8,zkV,nI 0] [some (b8K h),some z8K,some (bW 329 64 (kA .u32 64 (S.sched x))),some (b8K h)] 5:=by kernel_rfl
noncomputable def lN (l:List Nat) (i:Nat):Nat:=@List.rec Nat (fun _=>Nat→Nat) (fun _=>0) (fun x _ ih i=>@Nat.rec (fun _=>Nat) x (fun j _=>ih j) i) l i
def X4:List Nat:=[0,1,2,3,4,5,6,7,8,9,10,11,12,13,14,15,16,17,18,19,20,21,22,23,24,25,26,27,28,29,30,31,32,33,34,35,36,37,38,39,40,41,42,43,44,45,46,47,48,49,50,51,52,53,54,55,56,57,58,59,60,61,62,63]
def ns8:List Nat:=[0,1,2,3,4,5,6,7]
theorem zby {t:Nat}(h:t < 64):t∈X4:=by
 have hd:∀ t:Fin 64,t.1∈X4:=by decide
 exact hd ⟨t,h⟩
theorem zFm {t:Nat}(h:t < 8):t∈ns8:=by
 have hd:∀ t:Fin 8,t.1∈ns8:=by decide
 exact hd ⟨t,h⟩
noncomputable def yK:List Code:=lpc (yp.getD 4 .skip)
noncomputable def zbz:List Code:=fl (blB (yK.getD 2 .skip))
noncomputable def zdc (h w:Nat→Nat) (s:S.St):List (Option KBlk):=[some (b8K h),some z8K,some (bW 329 64 (kA .u32 64 w)),some (b8K s.get)]
def zkW (h w:Nat→Nat) (s:S.St) (t:Nat) (Q:KQ) (R:KV→Prop):Prop:=kpc wk 276 (yK.take 2) [2,4,5,6,17,18] [0,1,2,3] (Z8 h w s t) Q R
theorem zAT (h w:Nat→Nat) (s:S.St) (Q:KQ) (R:KV→Prop):X4.map (fun t=>zkW h w s t Q R)=X4.map (fun t=>Q .normal (zdb t) (zdc h w s) 4):=by kernel_rfl
theorem zuW (h w:Nat→Nat) (s:S.St) (Q:KQ) (R:KV→Prop):zkW h w s 64 Q R=Q (.exit 0) (zdb 64) (zdc h w s) 4:=by kernel_rfl
def zp8 (h w:Nat→Nat) (s:S.St) (t:Nat) (Q:KQ) (R:KV→Prop):Prop:=kpc wk 276 (zbz.take 4) [2,4,5,6,17,18,11,12] [0,1,2,3] (Z8 h w s t) Q R
theorem zAU (h w:Nat→Nat) (s:S.St) (Q:KQ) (R:KV→Prop):X4.map (fun t=>zp8 h w s t Q R)=X4.map (fun t=>Q .normal (zdb t++[.int .u32 (.ofNat (S.t1 s (vU.getD t 0) (w t))),.int .u32 (.ofNat (S.t2 s))]) (zdc h w s) 4):=by kernel_rfl
noncomputable def zkX (h w:Nat→Nat) (s:S.St) (t x y:Nat):LS:=((Z8 h w s t).1++[(11,.int .u32 (.ofNat x)),(12,.int .u32 (.ofNat y))],(Z8 h w s t).2.1,4)
def zp9 (h w:Nat→Nat) (s:S.St) (t x y:Nat) (Q:KQ) (R:KV→Prop):Prop:=kpc wk 276 (zbz.drop 4) [2,4,5,6,17,18] [0,1,2,3] (zkX h w s t x y) Q R
noncomputable def nxS (s:S.St) (x y:Nat):S.St:=⟨S.add32 x y,s.a,s.b,s.c,S.add32 s.d x,s.e,s.f,s.g⟩
theorem zAV (h w:Nat→Nat) (s:S.St) (t x y:Nat) (Q:KQ) (R:KV→Prop):zp9 h w s t x y Q R=Q .normal (zdb t) (zdc h w (nxS s x y)) 4:=by kernel_rfl
def zqa (h w:Nat→Nat) (s:S.St) (t:Nat) (Q:KQ) (R:KV→Prop):Prop:=kpc wk 276 (yK.drop 3) [2,4,5,6,17,18] [0,1,2,3] (Z8 h w s t) Q R
theorem zAW (h w:Nat→Nat) (s:S.St) (Q:KQ) (R:KV→Prop):X4.map (fun t=>zqa h w s t Q R)=X4.map (fun t=>Q .normal (zdb (Nat.add t 1)) (zdc h w s) 4):=by kernel_rfl
noncomputable def JK (a x:Nat→Nat) (t:Nat):LS:=([(2,zl 0 8),(4,zl 1 8),(6,zl 2 8),(99,nI t)],[(0,b8K a),(1,z8K),(2,b8K x)],3)
noncomputable def zkY (t:Nat):List KV:=[zl 0 8,zl 1 8,zl 2 8,nI t]
def zqb (h w:Nat→Nat) (s:S.St) (Q:KQ) (R:KV→Prop):Prop:=kpc wk 276 ((yp.drop 5).take 1) [2,4,6,99] [0,1,3] (Z8 h w s 64) Q R
theorem zAX (h w:Nat→Nat) (s:S.St) (Q:KQ) (R:KV→Prop):zqb h w s Q R=Q .normal [zl 0 8,zl 1 8,zl 3 8,nI 0] [some (b8K h),some z8K,some (b8K s.get)] 4:=by kernel_rfl
def zkZ (a x:Nat→Nat) (t:Nat) (Q:KQ) (R:KV→Prop):Prop:=kpc wk 276 (lpc (yp.getD 6 .skip)) [2,4,6,99] [0,1,2] (JK a x t) Q R
noncomputable def acN (a x:Nat→Nat) (t j:Nat):Nat:=@Bool.rec (fun _=>Nat) (a j) (S.add32 (a t) (x t)) (Nat.beq j t)
theorem zAY (a x:Nat→Nat) (Q:KQ) (R:KV→Prop):ns8.map (fun t=>zkZ a x t Q R)=ns8.map (fun t=>Q .normal (zkY (Nat.add t 1)) [some (b8K (acN a x t)),some z8K,some (b8K x)] 3):=by kernel_rfl
theorem zuX (a x:Nat→Nat) (Q:KQ) (R:KV→Prop):zkZ a x 8 Q R=Q (.exit 2) (zkY 8) [some (b8K a),some z8K,some (b8K x)] 3:=by kernel_rfl
def zqc (a x:Nat→Nat) (Q:KQ) (R:KV→Prop):Prop:=kpc wk 276 (yp.drop 7) [] [] (JK a x 8) Q R
theorem zAZ (a x:Nat→Nat) (Q:KQ) (R:KV→Prop):zqc a x Q R=R (kA .u32 8 a):=by kernel_rfl
theorem zuY (w:Nat→Nat) (s0:S.St) (t:Nat):nxS (S.rounds w s0 t) (S.t1 (S.rounds w s0 t) (vU.getD t 0) (w t)) (S.t2 (S.rounds w s0 t))=S.rounds w s0 (t + 1):=rfl
end
end Go.K
