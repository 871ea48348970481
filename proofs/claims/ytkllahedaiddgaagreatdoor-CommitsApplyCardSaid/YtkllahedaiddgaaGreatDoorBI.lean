/- Numbers of a kind: the model's operations, in a form that is quickly worked out. No condition. -/
import Derived.WalkKit
set_option linter.unusedSimpArgs false
set_option linter.unusedVariables false
namespace Go.Ab
noncomputable section
def mdl:IntKind→Nat
 | .i8 | .u8=>256
 | .i16 | .u16=>65536
 | .i32 | .u32=>4294967296
 | .i64 | .u64=>18446744073709551616
def hlf:IntKind→Nat
 | .i8 | .u8=>128
 | .i16 | .u16=>32768
 | .i32 | .u32=>2147483648
 | .i64 | .u64=>9223372036854775808
def sgn:IntKind→Bool
 | .i8 | .i16 | .i32 | .i64=>true
 | _=>false
def qc (k:IntKind) (n:Nat):Int:=@Bool.rec (fun _=>Int) (.ofNat (n % mdl k)) (bif Nat.blt n (hlf k) then .ofNat n else k.wrap (.ofNat n)) (sgn k)
theorem vJ (k:IntKind) (n:Nat):qc k n=k.wrap (.ofNat n):=by
 have hs:∀(h:Nat) (w:Int),(n < h→Int.ofNat n=w)→(bif Nat.blt n h then Int.ofNat n else w)=w:=by
  intro h w hw
  by_cases hlt:n < h
  ·rw[show Nat.blt n h=true by simpa using hlt,cond_true,hw hlt]
  ·rw[show Nat.blt n h=false by rw[←Bool.not_eq_true,Nat.blt_eq]; exact hlt,cond_false]
 cases k
 ·refine hs 128 _ fun h=>?_
  simp only[IntKind.wrap,IntKind.signed,IntKind.bits,Bool.true_and,Int.ofNat_eq_natCast]
  simp; omega
 ·refine hs 32768 _ fun h=>?_
  simp only[IntKind.wrap,IntKind.signed,IntKind.bits,Bool.true_and,Int.ofNat_eq_natCast]
  simp; omega
 ·refine hs 2147483648 _ fun h=>?_
  simp only[IntKind.wrap,IntKind.signed,IntKind.bits,Bool.true_and,Int.ofNat_eq_natCast]
  simp; omega
 ·refine hs 9223372036854775808 _ fun h=>?_
  simp only[IntKind.wrap,IntKind.signed,IntKind.bits,Bool.true_and,Int.ofNat_eq_natCast]
  simp; omega
 all_goals
  simp only[qc,sgn,mdl,IntKind.wrap,IntKind.signed,IntKind.bits,Bool.false_and,Int.ofNat_eq_natCast]
  simp
theorem XQ (k:IntKind) (n:Nat):k.wrap ((n % mdl k:Nat):Int)=k.wrap (n:Int):=by
 cases k<;>simp only[IntKind.wrap,mdl,IntKind.bits,Int.natCast_emod]<;>simp
def zdY (k:IntKind) (a b:Int):Int:=match a,b with
 | .ofNat x,.ofNat y=>qc k (x + y)
 | a,b=>k.wrap (a + b)
theorem zcl (k:IntKind) (a b:Int):zdY k a b=k.wrap (a + b):=by
 unfold zdY
 split
 ·rw[vJ]; rfl
 ·rfl
def zdZ (k:IntKind) (a b:Int):Int:=match a,b with
 | .ofNat x,.ofNat y=>qc k (x * y)
 | a,b=>k.wrap (a * b)
theorem zcm (k:IntKind) (a b:Int):zdZ k a b=k.wrap (a * b):=by
 unfold zdZ
 split
 ·rw[vJ]; rfl
 ·rfl
def XR (k:IntKind) (a b:Int):Int:=match a,b with
 | .ofNat x,.ofNat y=>@Bool.rec (fun _=>Int) (qc k (x + (mdl k - y % mdl k))) (bif Nat.ble y x then qc k (x - y) else k.wrap (Int.ofNat x - Int.ofNat y)) (sgn k)
 | a,b=>k.wrap (a - b)
theorem Qp (k:IntKind) (a:Int):k.wrap (a + mdl k)=k.wrap a:=by
 cases k<;>simp only[IntKind.wrap,mdl,IntKind.bits]<;>simp [Int.add_emod_right]
theorem JG (k:IntKind) (a:Int):k.wrap (a % mdl k)=k.wrap a:=by
 cases k<;>simp only[IntKind.wrap,mdl,IntKind.bits]<;>simp
theorem zcn (k:IntKind) (a b:Int):XR k a b=k.wrap (a - b):=by
 unfold XR
 split
 ·rename_i x y
  have hu:qc k (x + (mdl k - y % mdl k))=k.wrap (Int.ofNat x - Int.ofNat y):=by
   rw[vJ]
   have hlt:y % mdl k < mdl k:=Nat.mod_lt _ (by cases k<;>decide)
   have e1:(Int.ofNat (x + (mdl k - y % mdl k)):Int)=(Int.ofNat x - ((y % mdl k:Nat):Int)) + mdl k:=by simp only[Int.ofNat_eq_natCast]; omega
   rw[e1,Qp,←JG,←JG k (Int.ofNat x - Int.ofNat y)]
   congr 1
   simp only[Int.ofNat_eq_natCast,Int.natCast_emod]
   rw[Int.sub_emod,Int.emod_emod,←Int.sub_emod]
  have hs:(bif Nat.ble y x then qc k (x - y) else k.wrap (Int.ofNat x - Int.ofNat y))=k.wrap (Int.ofNat x - Int.ofNat y):=by
   by_cases h:y≤x
   ·rw[show Nat.ble y x=true by simpa using h,cond_true,vJ]
    congr 1
    simp only[Int.ofNat_eq_natCast]; omega
   ·rw[show Nat.ble y x=false by rw[←Bool.not_eq_true,Nat.ble_eq]; exact h,cond_false]
  cases sgn k
  ·exact hu
  ·exact hs
 ·rfl
theorem bv (k:IntKind) (x:Nat):(BitVec.ofInt k.bits (Int.ofNat x)).toNat=x % mdl k:=by
 rw[BitVec.toNat_ofInt]
 cases k<;>simp only[IntKind.bits,mdl,Int.ofNat_eq_natCast]<;>simp<;>omega
theorem wq (k:IntKind):mdl k=2 ^ k.bits:=by cases k<;>rfl
def zjf (k:IntKind) (a b:Int):Int:=match a,b with
 | .ofNat x,.ofNat y=>qc k (x &&& y)
 | a,b=>k.wrap (BitVec.ofInt k.bits a &&& BitVec.ofInt k.bits b).toNat
theorem zco (k:IntKind) (a b:Int):zjf k a b=k.wrap (BitVec.ofInt k.bits a &&& BitVec.ofInt k.bits b).toNat:=by
 unfold zjf
 split
 ·rw[vJ,BitVec.toNat_and,bv,bv,Int.ofNat_eq_natCast,wq,←Nat.and_mod_two_pow,←wq,XQ]
 ·rfl
def orI (k:IntKind) (a b:Int):Int:=match a,b with
 | .ofNat x,.ofNat y=>qc k (x ||| y)
 | a,b=>k.wrap (BitVec.ofInt k.bits a ||| BitVec.ofInt k.bits b).toNat
theorem zeU (k:IntKind) (a b:Int):orI k a b=k.wrap (BitVec.ofInt k.bits a ||| BitVec.ofInt k.bits b).toNat:=by
 unfold orI
 split
 ·rw[vJ,BitVec.toNat_or,bv,bv,Int.ofNat_eq_natCast,wq,←Nat.or_mod_two_pow,←wq,XQ]
 ·rfl
def zjg (k:IntKind) (a b:Int):Int:=match a,b with
 | .ofNat x,.ofNat y=>qc k (x ^^^ y)
 | a,b=>k.wrap (BitVec.ofInt k.bits a ^^^ BitVec.ofInt k.bits b).toNat
theorem Qq (k:IntKind) (a b:Int):zjg k a b=k.wrap (BitVec.ofInt k.bits a ^^^ BitVec.ofInt k.bits b).toNat:=by
 unfold zjg
 split
 ·rw[vJ,BitVec.toNat_xor,bv,bv,Int.ofNat_eq_natCast,wq,←Nat.xor_mod_two_pow,←wq,XQ]
 ·rfl
def zeV (k:IntKind) (a:Int):Int:=match sgn k,a with
 | false,.ofNat x=>qc k ((mdl k - 1) ^^^ x)
 | _,a=>k.wrap (BitVec.ofInt k.bits (if k.signed then -1 else k.max) ^^^ BitVec.ofInt k.bits a).toNat
theorem zjh (k:IntKind) (a:Int):zeV k a=k.wrap (BitVec.ofInt k.bits (if k.signed then -1 else k.max) ^^^ BitVec.ofInt k.bits a).toNat:=by
 unfold zeV
 split
 ·rename_i x hk
  have:(if k.signed=true then (-1:Int) else k.max)=Int.ofNat (mdl k - 1):=by cases k<;>first | (simp [sgn] at hk; done) | rfl
  rw[this,←Qq]; rfl
 ·rfl
def zji (k:IntKind) (a:Int) (n:Nat):Int:=match a with
 | .ofNat x=>qc k (x * 2 ^ n)
 | a=>k.wrap (a * Int.ofNat (2 ^ n))
theorem JH (n:Nat):Int.ofNat (2 ^ n)=2 ^ n:=by
 show ((2 ^ n:Nat):Int)=_
 rw[Int.natCast_pow]; rfl
theorem zjj (k:IntKind) (a:Int) (n:Nat):zji k a n=k.wrap (a * 2 ^ n):=by
 unfold zji
 rw[←JH]
 split
 ·rw[vJ]; rfl
 ·rfl
def fdv (a:Int) (d:Nat):Int:=match a with
 | .ofNat m=>.ofNat (m / d)
 | .negSucc m=>Int.fdiv (.negSucc m) d
theorem znn (a:Int) (d:Nat):fdv a d=a.fdiv d:=by
 cases a with
 | ofNat m =>
  show ((m / d:Nat):Int)=_
  rw[Int.natCast_ediv]
  exact (Int.fdiv_eq_ediv_of_nonneg _ (Int.natCast_nonneg d)).symm
 | negSucc m=>rfl
def XS (k:IntKind) (a:Int):Int:=match a with
 | .ofNat x=>qc k x
 | a=>k.wrap a
theorem zjk (k:IntKind) (a:Int):XS k a=k.wrap a:=by
 unfold XS
 split
 ·exact vJ k _
 ·rfl
def zd0 (k:IntKind) (a b:Int):Int:=match a,b with
 | .ofNat x,.ofNat y=>qc k (x / y)
 | a,b=>k.wrap (a.tdiv b)
theorem zcp (k:IntKind) (a b:Int):zd0 k a b=k.wrap (a.tdiv b):=by
 unfold zd0
 split
 ·rw[vJ]; rfl
 ·rfl
def ltI (a b:Int):Bool:=match a,b with
 | .ofNat x,.ofNat y=>Nat.blt x y
 | .negSucc _,.ofNat _=>true
 | .ofNat _,.negSucc _=>false
 | a,b=>decide (a < b)
theorem xE (a b:Int):ltI a b=decide (a < b):=by
 unfold ltI
 split
 ·rename_i x y
  rw[Bool.eq_iff_iff]
  simp only[Nat.blt_eq,decide_eq_true_eq,Int.ofNat_eq_natCast]; omega
 ·rename_i x y
  exact (decide_eq_true (Int.lt_of_lt_of_le (Int.negSucc_lt_zero x) (Int.natCast_nonneg y))).symm
 ·rename_i x y
  exact (decide_eq_false (Int.not_lt.2 (Int.le_of_lt (Int.lt_of_lt_of_le (Int.negSucc_lt_zero y) (Int.natCast_nonneg x))))).symm
 ·rfl
def leI (a b:Int):Bool:=match a,b with
 | .ofNat x,.ofNat y=>Nat.ble x y
 | .negSucc _,.ofNat _=>true
 | .ofNat _,.negSucc _=>false
 | a,b=>decide (a≤b)
theorem xq (a b:Int):leI a b=decide (a≤b):=by
 unfold leI
 split
 ·rename_i x y
  rw[Bool.eq_iff_iff]
  simp only[Nat.ble_eq,decide_eq_true_eq,Int.ofNat_eq_natCast]; omega
 ·rename_i x y
  exact (decide_eq_true (Int.le_of_lt (Int.lt_of_lt_of_le (Int.negSucc_lt_zero x) (Int.natCast_nonneg y)))).symm
 ·rename_i x y
  exact (decide_eq_false (Int.not_le.2 (Int.lt_of_lt_of_le (Int.negSucc_lt_zero y) (Int.natCast_nonneg x)))).symm
 ·rfl
def eqI (a b:Int):Bool:=match a,b with
 | .ofNat x,.ofNat y=>Nat.beq x y
 | .negSucc _,.ofNat _=>false
 | .ofNat _,.negSucc _=>false
 | a,b=>a==b
theorem qG (a b:Int):eqI a b=(a==b):=by
 unfold eqI
 split
 ·rename_i x y
  rw[Bool.eq_iff_iff]
  simp only[Nat.beq_eq,beq_iff_eq,Int.ofNat_eq_natCast]; omega
 ·rfl
 ·rfl
 ·rfl
end
end Go.Ab
