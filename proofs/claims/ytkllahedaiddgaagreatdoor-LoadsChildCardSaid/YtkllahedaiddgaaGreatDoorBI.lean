/- Numbers of a kind: the model's operations, in a form that is quickly worked out. No condition. -/
import Derived.WalkKit
set_option linter.unusedSimpArgs false
set_option linter.unusedVariables false
namespace Go.Ab
noncomputable section
def mdl:IntKind→Nat
 | .i8 | .u8=>256
 | .i16 | .u16=>65536
 | .i32 | .u32=>4294967296
 | .i64 | .u64=>18446744073709551616
def hlf:IntKind→Nat
 | .i8 | .u8=>128
 | .i16 | .u16=>32768
 | .i32 | .u32=>2147483648
 | .i64 | .u64=>9223372036854775808
def sgn:IntKind→Bool
 | .i8 | .i16 | .i32 | .i64=>true
 | _=>false
def qE (k:IntKind) (n:Nat):Int:=@Bool.rec (fun _=>Int) (.ofNat (n % mdl k)) (bif Nat.blt n (hlf k) then .ofNat n else k.wrap (.ofNat n)) (sgn k)
theorem vW (k:IntKind) (n:Nat):qE k n=k.wrap (.ofNat n):=by
 have hs:∀(h:Nat) (w:Int),(n < h→Int.ofNat n=w)→(bif Nat.blt n h then Int.ofNat n else w)=w:=by
  intro h w hw
  by_cases hlt:n < h
  ·rw[show Nat.blt n h=true by simpa using hlt,cond_true,hw hlt]
  ·rw[show Nat.blt n h=false by rw[←Bool.not_eq_true,Nat.blt_eq]; exact hlt,cond_false]
 cases k
 ·refine hs 128 _ fun h=>?_
  simp only[IntKind.wrap,IntKind.signed,IntKind.bits,Bool.true_and,Int.ofNat_eq_natCast]
  simp; omega
 ·refine hs 32768 _ fun h=>?_
  simp only[IntKind.wrap,IntKind.signed,IntKind.bits,Bool.true_and,Int.ofNat_eq_natCast]
  simp; omega
 ·refine hs 2147483648 _ fun h=>?_
  simp only[IntKind.wrap,IntKind.signed,IntKind.bits,Bool.true_and,Int.ofNat_eq_natCast]
  simp; omega
 ·refine hs 9223372036854775808 _ fun h=>?_
  simp only[IntKind.wrap,IntKind.signed,IntKind.bits,Bool.true_and,Int.ofNat_eq_natCast]
  simp; omega
 all_goals
  simp only[qE,sgn,mdl,IntKind.wrap,IntKind.signed,IntKind.bits,Bool.false_and,Int.ofNat_eq_natCast]
  simp
theorem VB (k:IntKind) (n:Nat):k.wrap ((n % mdl k:Nat):Int)=k.wrap (n:Int):=by
 cases k<;>simp only[IntKind.wrap,mdl,IntKind.bits,Int.natCast_emod]<;>simp
def zff (k:IntKind) (a b:Int):Int:=match a,b with
 | .ofNat x,.ofNat y=>qE k (x + y)
 | a,b=>k.wrap (a + b)
theorem zdi (k:IntKind) (a b:Int):zff k a b=k.wrap (a + b):=by
 unfold zff
 split
 ·rw[vW]; rfl
 ·rfl
def zfg (k:IntKind) (a b:Int):Int:=match a,b with
 | .ofNat x,.ofNat y=>qE k (x * y)
 | a,b=>k.wrap (a * b)
theorem zdj (k:IntKind) (a b:Int):zfg k a b=k.wrap (a * b):=by
 unfold zfg
 split
 ·rw[vW]; rfl
 ·rfl
def VD (k:IntKind) (a b:Int):Int:=match a,b with
 | .ofNat x,.ofNat y=>@Bool.rec (fun _=>Int) (qE k (x + (mdl k - y % mdl k))) (bif Nat.ble y x then qE k (x - y) else k.wrap (Int.ofNat x - Int.ofNat y)) (sgn k)
 | a,b=>k.wrap (a - b)
theorem Wl (k:IntKind) (a:Int):k.wrap (a + mdl k)=k.wrap a:=by
 cases k<;>simp only[IntKind.wrap,mdl,IntKind.bits]<;>simp [Int.add_emod_right]
theorem Qx (k:IntKind) (a:Int):k.wrap (a % mdl k)=k.wrap a:=by
 cases k<;>simp only[IntKind.wrap,mdl,IntKind.bits]<;>simp
theorem zdk (k:IntKind) (a b:Int):VD k a b=k.wrap (a - b):=by
 unfold VD
 split
 ·rename_i x y
  have hu:qE k (x + (mdl k - y % mdl k))=k.wrap (Int.ofNat x - Int.ofNat y):=by
   rw[vW]
   have hlt:y % mdl k < mdl k:=Nat.mod_lt _ (by cases k<;>decide)
   have e1:(Int.ofNat (x + (mdl k - y % mdl k)):Int)=(Int.ofNat x - ((y % mdl k:Nat):Int)) + mdl k:=by simp only[Int.ofNat_eq_natCast]; omega
   rw[e1,Wl,←Qx,←Qx k (Int.ofNat x - Int.ofNat y)]
   congr 1
   simp only[Int.ofNat_eq_natCast,Int.natCast_emod]
   rw[Int.sub_emod,Int.emod_emod,←Int.sub_emod]
  have hs:(bif Nat.ble y x then qE k (x - y) else k.wrap (Int.ofNat x - Int.ofNat y))=k.wrap (Int.ofNat x - Int.ofNat y):=by
   by_cases h:y≤x
   ·rw[show Nat.ble y x=true by simpa using h,cond_true,vW]
    congr 1
    simp only[Int.ofNat_eq_natCast]; omega
   ·rw[show Nat.ble y x=false by rw[←Bool.not_eq_true,Nat.ble_eq]; exact h,cond_false]
  cases sgn k
  ·exact hu
  ·exact hs
 ·rfl
theorem bv (k:IntKind) (x:Nat):(BitVec.ofInt k.bits (Int.ofNat x)).toNat=x % mdl k:=by
 rw[BitVec.toNat_ofInt]
 cases k<;>simp only[IntKind.bits,mdl,Int.ofNat_eq_natCast]<;>simp<;>omega
theorem wW (k:IntKind):mdl k=2 ^ k.bits:=by cases k<;>rfl
def zk7 (k:IntKind) (a b:Int):Int:=match a,b with
 | .ofNat x,.ofNat y=>qE k (x &&& y)
 | a,b=>k.wrap (BitVec.ofInt k.bits a &&& BitVec.ofInt k.bits b).toNat
theorem zdl (k:IntKind) (a b:Int):zk7 k a b=k.wrap (BitVec.ofInt k.bits a &&& BitVec.ofInt k.bits b).toNat:=by
 unfold zk7
 split
 ·rw[vW,BitVec.toNat_and,bv,bv,Int.ofNat_eq_natCast,wW,←Nat.and_mod_two_pow,←wW,VB]
 ·rfl
def orI (k:IntKind) (a b:Int):Int:=match a,b with
 | .ofNat x,.ofNat y=>qE k (x ||| y)
 | a,b=>k.wrap (BitVec.ofInt k.bits a ||| BitVec.ofInt k.bits b).toNat
theorem zgv (k:IntKind) (a b:Int):orI k a b=k.wrap (BitVec.ofInt k.bits a ||| BitVec.ofInt k.bits b).toNat:=by
 unfold orI
 split
 ·rw[vW,BitVec.toNat_or,bv,bv,Int.ofNat_eq_natCast,wW,←Nat.or_mod_two_pow,←wW,VB]
 ·rfl
def zgw (k:IntKind) (a b:Int):Int:=match a,b with
 | .ofNat x,.ofNat y=>qE k (x ^^^ y)
 | a,b=>k.wrap (BitVec.ofInt k.bits a ^^^ BitVec.ofInt k.bits b).toNat
theorem Wm (k:IntKind) (a b:Int):zgw k a b=k.wrap (BitVec.ofInt k.bits a ^^^ BitVec.ofInt k.bits b).toNat:=by
 unfold zgw
 split
 ·rw[vW,BitVec.toNat_xor,bv,bv,Int.ofNat_eq_natCast,wW,←Nat.xor_mod_two_pow,←wW,VB]
 ·rfl
def zgx (k:IntKind) (a:Int):Int:=match sgn k,a with
 | false,.ofNat x=>qE k ((mdl k - 1) ^^^ x)
 | _,a=>k.wrap (BitVec.ofInt k.bits (if k.signed then -1 else k.max) ^^^ BitVec.ofInt k.bits a).toNat
theorem zk8 (k:IntKind) (a:Int):zgx k a=k.wrap (BitVec.ofInt k.bits (if k.signed then -1 else k.max) ^^^ BitVec.ofInt k.bits a).toNat:=by
 unfold zgx
 split
 ·rename_i x hk
  have:(if k.signed=true then (-1:Int) else k.max)=Int.ofNat (mdl k - 1):=by cases k<;>first | (simp [sgn] at hk; done) | rfl
  rw[this,←Wm]; rfl
 ·rfl
def zfh (k:IntKind) (a:Int) (n:Nat):Int:=match a with
 | .ofNat x=>qE k (x * 2 ^ n)
 | a=>k.wrap (a * Int.ofNat (2 ^ n))
theorem Qy (n:Nat):Int.ofNat (2 ^ n)=2 ^ n:=by
 show ((2 ^ n:Nat):Int)=_
 rw[Int.natCast_pow]; rfl
theorem zk9 (k:IntKind) (a:Int) (n:Nat):zfh k a n=k.wrap (a * 2 ^ n):=by
 unfold zfh
 rw[←Qy]
 split
 ·rw[vW]; rfl
 ·rfl
def fdv (a:Int) (d:Nat):Int:=match a with
 | .ofNat m=>.ofNat (m / d)
 | .negSucc m=>Int.fdiv (.negSucc m) d
theorem zqh (a:Int) (d:Nat):fdv a d=a.fdiv d:=by
 cases a with
 | ofNat m =>
  show ((m / d:Nat):Int)=_
  rw[Int.natCast_ediv]
  exact (Int.fdiv_eq_ediv_of_nonneg _ (Int.natCast_nonneg d)).symm
 | negSucc m=>rfl
def VF (k:IntKind) (a:Int):Int:=match a with
 | .ofNat x=>qE k x
 | a=>k.wrap a
theorem zla (k:IntKind) (a:Int):VF k a=k.wrap a:=by
 unfold VF
 split
 ·exact vW k _
 ·rfl
def zfi (k:IntKind) (a b:Int):Int:=match a,b with
 | .ofNat x,.ofNat y=>qE k (x / y)
 | a,b=>k.wrap (a.tdiv b)
theorem zdm (k:IntKind) (a b:Int):zfi k a b=k.wrap (a.tdiv b):=by
 unfold zfi
 split
 ·rw[vW]; rfl
 ·rfl
def ltI (a b:Int):Bool:=match a,b with
 | .ofNat x,.ofNat y=>Nat.blt x y
 | .negSucc _,.ofNat _=>true
 | .ofNat _,.negSucc _=>false
 | a,b=>decide (a < b)
theorem vA (a b:Int):ltI a b=decide (a < b):=by
 unfold ltI
 split
 ·rename_i x y
  rw[Bool.eq_iff_iff]
  simp only[Nat.blt_eq,decide_eq_true_eq,Int.ofNat_eq_natCast]; omega
 ·rename_i x y
  exact (decide_eq_true (Int.lt_of_lt_of_le (Int.negSucc_lt_zero x) (Int.natCast_nonneg y))).symm
 ·rename_i x y
  exact (decide_eq_false (Int.not_lt.2 (Int.le_of_lt (Int.lt_of_lt_of_le (Int.negSucc_lt_zero y) (Int.natCast_nonneg x))))).symm
 ·rfl
def leI (a b:Int):Bool:=match a,b with
 | .ofNat x,.ofNat y=>Nat.ble x y
 | .negSucc _,.ofNat _=>true
 | .ofNat _,.negSucc _=>false
 | a,b=>decide (a≤b)
theorem xR (a b:Int):leI a b=decide (a≤b):=by
 unfold leI
 split
 ·rename_i x y
  rw[Bool.eq_iff_iff]
  simp only[Nat.ble_eq,decide_eq_true_eq,Int.ofNat_eq_natCast]; omega
 ·rename_i x y
  exact (decide_eq_true (Int.le_of_lt (Int.lt_of_lt_of_le (Int.negSucc_lt_zero x) (Int.natCast_nonneg y)))).symm
 ·rename_i x y
  exact (decide_eq_false (Int.not_le.2 (Int.lt_of_lt_of_le (Int.negSucc_lt_zero y) (Int.natCast_nonneg x)))).symm
 ·rfl
def eqI (a b:Int):Bool:=match a,b with
 | .ofNat x,.ofNat y=>Nat.beq x y
 | .negSucc _,.ofNat _=>false
 | .ofNat _,.negSucc _=>false
 | a,b=>a==b
theorem Xd (a b:Int):eqI a b=(a==b):=by
 unfold eqI
 split
 ·rename_i x y
  rw[Bool.eq_iff_iff]
  simp only[Nat.beq_eq,beq_iff_eq,Int.ofNat_eq_natCast]; omega
 ·rfl
 ·rfl
 ·rfl
end
end Go.Ab
