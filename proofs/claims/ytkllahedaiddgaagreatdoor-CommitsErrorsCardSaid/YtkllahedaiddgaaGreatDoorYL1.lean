/- The program of the seat: its package variables, and what stands fast around a run. No condition. -/
import Derived.Test.YtkllahedaiddgaaGreatDoorY8
import Derived.Test.YtkllahedaiddgaaGreatDoorProg
set_option linter.unusedVariables false
namespace Go.Y
open Go.Ab Go.RowKit Go.Proofs
noncomputable section
def zlv:List Nat:=[45,33]
def zti:List Nat:=[1779033703,3144134277,1013904242,2773480762,1359893119,2600822924,528734635,1541459225]
def x9:List Nat:=[1116352408,1899447441,3049323471,3921009573,961987163,1508970993,2453635748,2870763221,3624381080,310598401,607225278,1426881987,1925078388,2162078206,2614888103,3248222580,3835390401,4022224774,264347078,604807628,770255983,1249150122,1555081692,1996064986,2554220882,2821834349,2952996808,3210313671,3336571891,3584528711,113926993,338241895,666307205,773529912,1294757372,1396182291,1695183700,1986661051,2177026350,2456956037,2730485921,2820302411,3259730800,3345764771,3516065817,3600352804,4094571909,275423344,430227734,506948616,659060556,883997877,958139571,1322822218,1537002063,1747873779,1955562222,2024104815,2227730452,2361852424,2428436474,2756734187,3204031479,3329325298]
def zxg (i:Nat):V:=.int .i64 (Int.ofNat (zlv.getD i 0))
def zCf (i:Nat):V:=.int .u32 (Int.ofNat (zti.getD i 0))
def zxh (i:Nat):V:=.int .u32 (Int.ofNat (x9.getD i 0))
def GL (g:Nat):V:=match g with
 | 0=>.ref true (.arr 2 .sc) (.arr 2 zxg)
 | 1=>.ref true (.arr 8 .sc) (.arr 8 zCf)
 | 2=>.ref true (.arr 64 .sc) (.arr 64 zxh)
 | _=>.unk
instance glL:Gl:={ G:=GL,cl:=false }
theorem zq3 (g:Nat):xP (Gl.G g)=true:=by
 match g with
 | 0=>rfl
 | 1=>rfl
 | 2=>rfl
 | 3=>rfl
 | _ + 4=>rfl
theorem zf1 (g:Nat):borrow (Gl.G g)=Gl.G g:=by
 match g with
 | 0=>rfl
 | 1=>rfl
 | 2=>rfl
 | 3=>rfl
 | _ + 4=>rfl
theorem zCg:FnsOk Tryz.prog:=by
 unfold FnsOk
 decide +kernel
theorem zxi:Tryz.prog.follows .mixedOrders=true:=by decide +kernel
theorem zCh {ct:qZ}(h:CTG Tryz.prog ct):Env Tryz.prog ct:=⟨zCg,h,zq3,zf1,zxi⟩
end
end Go.Y
