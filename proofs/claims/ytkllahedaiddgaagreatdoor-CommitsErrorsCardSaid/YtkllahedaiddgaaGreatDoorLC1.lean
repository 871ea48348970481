/- The compressions as contracts of the run, joined. No condition. -/
import Derived.Test.YtkllahedaiddgaaGreatDoorYL2
import Derived.Test.YtkllahedaiddgaaGreatDoorKL0
set_option linter.unusedSimpArgs false
set_option linter.unusedVariables false
set_option maxRecDepth 100000
namespace Go.K
open Go.Ab Go.RowKit Go.Y Go.Proofs
noncomputable section
def QB (l:List Nat):Nat→Nat:=@List.rec Nat (fun _=>Nat→Nat) (fun _=>0) (fun x _ ih i=>@Nat.rec (fun _=>Nat) x (fun j _=>ih j) i) l
theorem zex:∀(l:List Nat) (i:Nat),QB l i=l.getD i 0
 | [],i=>rfl
 | x::l,0=>rfl
 | x::l,i + 1=>by
  show QB l i=_
  rw[zex l i,List.getD_cons_succ]
def gF (ld:Nat→Nat) (nw:Nat→Nat→Nat→Nat→Nat) (n:Nat):(List Nat→Prop)→Prop :=
 @Nat.rec (fun _=>(List Nat→Prop)→Prop) (fun K=>K []) (fun t ih K=>ih fun l=>zx (@Bool.rec (fun _=>Nat) (nw (QB l 14) (QB l 1) (QB l 6) (QB l 15)) (ld t) (Nat.blt t 16)) fun w=>K (w::l)) n
theorem zsJ (ld:Nat→Nat) (nw:Nat→Nat→Nat→Nat→Nat):∀(n:Nat) (K:List Nat→Prop),gF ld nw n K=K (S.gL ld nw n)
 | 0,K=>rfl
 | n + 1,K=>by
  show gF ld nw n (fun l=>zx (@Bool.rec (fun _=>Nat) (nw (QB l 14) (QB l 1) (QB l 6) (QB l 15)) (ld n) (Nat.blt n 16)) fun w=>K (w::l))=_
  rw[zsJ ld nw n,zy]
  simp only[zex,S.gL]
  congr 2
  by_cases h:n < 16
  ·rw[show Nat.blt n 16=true by rw[Nat.blt_eq]; exact h,show decide (n < 16)=true by simpa using h]; rfl
  ·rw[show Nat.blt n 16=false by rw[Bool.eq_false_iff]; intro h2; rw[Nat.blt_eq] at h2; exact h h2,show decide (n < 16)=false by simpa using h]; rfl
theorem Wn (ld:Nat→Nat) (nw:Nat→Nat→Nat→Nat→Nat) (j:Nat):∀ k,S.gS ld nw (j + 1 + k) j=S.gS ld nw (j + 1) j
 | 0=>rfl
 | k + 1=>by
  rw[←Wn ld nw j k]
  show (bif j==j + 1 + k then _ else _)=_
  rw[show (j==j + 1 + k)=false by simp; omega,cond_false]
  rfl
theorem zpM (ld:Nat→Nat) (nw:Nat→Nat→Nat→Nat→Nat) {t:Nat}(h:t < 64):S.gL ld nw (t + 1)=(S.gL ld nw 64).getD (63 - t) 0::S.gL ld nw t:=by
 have h1:=S.gS_gL ld nw (t + 1) t (by omega)
 have h2:=S.gS_gL ld nw 64 t h
 have h3:=Wn ld nw t (63 - t)
 rw[show t + 1 + (63 - t)=64 by omega] at h3
 rw[h3,h1] at h2
 rw[show 64 - 1 - t=63 - t by omega] at h2
 rw[←h2,show t + 1 - 1 - t=0 by omega]
 simp only[S.gL,List.getD_cons_zero]
section
variable (T1:Nat→Nat→Nat→Nat→Nat→Nat→Nat) (T2:Nat→Nat→Nat→Nat)
def ziE (k w:Nat) (s:S.St):S.St:=⟨S.add32 (T1 s.e s.f s.g s.h k w) (T2 s.a s.b s.c),s.a,s.b,s.c,S.add32 s.d (T1 s.e s.f s.g s.h k w),s.e,s.f,s.g⟩
def X5 (w:Nat→Nat) (s:S.St):Nat→S.St
 | 0=>s
 | t + 1=>ziE T1 T2 (x9.getD t 0) (w t) (X5 w s t)
abbrev K8:Type:=Nat→Nat→Nat→Nat→Nat→Nat→Nat→Nat→Prop
def rF (a b c d e f g h:Nat) (ws:List Nat):List Nat→K8→Prop :=
 @List.rec Nat (fun _=>List Nat→K8→Prop) (fun _ K=>K a b c d e f g h) (fun w _ ih ks K=>@List.rec Nat (fun _=>Prop) True (fun k kr _=>ih kr fun a b c d e f g h =>
  zx (T1 e f g h k w) fun x=>zx (Nat.mod (Nat.add x (T2 a b c)) 4294967296) fun a'=>zx (Nat.mod (Nat.add d x) 4294967296) fun e'=>K a' a b c e' e f g) ks) ws
def zpN:Nat→List Nat
 | 0=>[]
 | t + 1=>x9.getD t 0::zpN t
theorem zsK (ld:Nat→Nat) (nw:Nat→Nat→Nat→Nat→Nat) (s:S.St):∀(t:Nat) (K:K8),t≤64→rF T1 T2 s.a s.b s.c s.d s.e s.f s.g s.h (S.gL ld nw t) (zpN t) K=(fun r:S.St=>K r.a r.b r.c r.d r.e r.f r.g r.h) (X5 T1 T2 (fun j=>(S.gL ld nw 64).getD (63 - j) 0) s t)
 | 0,K,_=>rfl
 | t + 1,K,h=>by
  rw[zpM ld nw (by omega)]
  show rF T1 T2 s.a s.b s.c s.d s.e s.f s.g s.h (S.gL ld nw t) (zpN t) _=_
  rw[zsK ld nw s t _ (by omega)]
  simp only[zy]
  rfl
end
def pk8 (a b c d e f g h:Nat) (K:Nat→Prop):Prop :=
 zx (Nat.add a (Nat.mul 4294967296 (Nat.add b (Nat.mul 4294967296 (Nat.add c (Nat.mul 4294967296 (Nat.add d (Nat.mul 4294967296 (Nat.add e (Nat.mul 4294967296 (Nat.add f (Nat.mul 4294967296 (Nat.add g (Nat.mul 4294967296 h)))))))))))))) K
theorem zvk (x o l:Nat):bts x o l=x / 2 ^ o % 2 ^ l:=by
 show (x >>> o) % 2 ^ l=_
 rw[Nat.shiftRight_eq_div_pow]
theorem zvl {a b c d e f g h:Nat}(ha:a < 4294967296) (hb:b < 4294967296) (hc:c < 4294967296) (hd:d < 4294967296) (he:e < 4294967296) (hf:f < 4294967296) (hg:g < 4294967296) (hh:h < 4294967296) :
  ∀ j,j < 8→pkr .u32 (a + 4294967296 * (b + 4294967296 * (c + 4294967296 * (d + 4294967296 * (e + 4294967296 * (f + 4294967296 * (g + 4294967296 * h))))))) j=[a,b,c,d,e,f,g,h].getD j 0:=by
 intro j hj
 show bts _ (32 * j) 32=_
 rw[zvk]
 match j,hj with
 | 0,_=>show _ / 1 % 4294967296=a; omega
 | 1,_=>show _ / 4294967296 % 4294967296=b; omega
 | 2,_=>show _ / (4294967296 * 4294967296) % 4294967296=c; omega
 | 3,_=>show _ / (4294967296 * 4294967296 * 4294967296) % 4294967296=d; omega
 | 4,_=>show _ / (4294967296 * 4294967296 * 4294967296 * 4294967296) % 4294967296=e; omega
 | 5,_=>show _ / (4294967296 * 4294967296 * 4294967296 * 4294967296 * 4294967296) % 4294967296=f; omega
 | 6,_=>show _ / (4294967296 * 4294967296 * 4294967296 * 4294967296 * 4294967296 * 4294967296) % 4294967296=g; omega
 | 7,_=>show _ / (4294967296 * 4294967296 * 4294967296 * 4294967296 * 4294967296 * 4294967296 * 4294967296) % 4294967296=h; omega
end
end Go.K
set_option maxRecDepth 100000
namespace Go.K
open Go.Ab Go.RowKit Go.Y Go.Proofs
noncomputable section
namespace F
def a32 (x y:Nat):Nat:=Nat.mod (Nat.add x y) 4294967296
def x32 (x y:Nat):Nat:=Nat.mod (Nat.xor x y) 4294967296
def n32 (x y:Nat):Nat:=Nat.mod (Nat.land x y) 4294967296
def o32 (x y:Nat):Nat:=Nat.mod (Nat.lor x y) 4294967296
def not32 (x:Nat):Nat:=Nat.mod (Nat.xor 4294967295 x) 4294967296
def Qz (a l r:Nat):Nat:=Nat.mod (Nat.lor (Nat.mod (Nat.mul a l) 4294967296) (Nat.div a r)) 4294967296
def QA (a l r:Nat):Nat:=Nat.mod (Nat.lor (Nat.div a r) (Nat.mod (Nat.mul a l) 4294967296)) 4294967296
def by8 (y off t i:Nat):Nat:=Nat.mod (pkr .u8 y (Nat.add off (Nat.add (Nat.mul 4 t) i))) 18446744073709551616
def o64 (x y:Nat):Nat:=Nat.mod (Nat.lor x y) 18446744073709551616
def p64 (x y:Nat):Nat:=Nat.mod (Nat.add x y) 18446744073709551616
def l64 (x:Nat):Nat:=Nat.mod (Nat.mul x 256) 18446744073709551616
def ldS (y off t:Nat):Nat:=Nat.mod (o64 (l64 (o64 (l64 (o64 (l64 (o64 0 (by8 y off t 0))) (by8 y off t 1))) (by8 y off t 2))) (by8 y off t 3)) 4294967296
def ldR (y off t:Nat):Nat:=Nat.mod (p64 (l64 (p64 (l64 (p64 (l64 (p64 (l64 0) (by8 y off t 0))) (by8 y off t 1))) (by8 y off t 2))) (by8 y off t 3)) 4294967296
def s0S (x:Nat):Nat:=x32 (x32 (Qz x 33554432 128) (Qz x 16384 262144)) (Nat.div x 8)
def s1S (y:Nat):Nat:=x32 (x32 (Qz y 32768 131072) (Qz y 8192 524288)) (Nat.div y 1024)
def nwS (w15 w2 w7 w16:Nat):Nat:=a32 (a32 (a32 (s1S w2) w7) (s0S w15)) w16
def s0R (x:Nat):Nat:=x32 (x32 (QA x 33554432 128) (QA x 16384 262144)) (Nat.div x 8)
def s1R (y:Nat):Nat:=x32 (x32 (QA y 32768 131072) (QA y 8192 524288)) (Nat.div y 1024)
def nwR (w15 w2 w7 w16:Nat):Nat:=a32 (a32 (a32 w16 w7) (s0R w15)) (s1R w2)
def b1S (e:Nat):Nat:=x32 (x32 (Qz e 67108864 64) (Qz e 2097152 2048)) (Qz e 128 33554432)
def b0S (a:Nat):Nat:=x32 (x32 (Qz a 1073741824 4) (Qz a 524288 8192)) (Qz a 1024 4194304)
def b1R (e:Nat):Nat:=x32 (x32 (QA e 67108864 64) (QA e 2097152 2048)) (QA e 128 33554432)
def b0R (a:Nat):Nat:=x32 (x32 (QA a 1073741824 4) (QA a 524288 8192)) (QA a 1024 4194304)
def chS (e f g:Nat):Nat:=x32 (n32 e f) (n32 (not32 e) g)
def mjS (a b c:Nat):Nat:=x32 (x32 (n32 a b) (n32 a c)) (n32 b c)
def chR (e f g:Nat):Nat:=o32 (n32 e f) (n32 (not32 e) g)
def mjR (a b c:Nat):Nat:=o32 (o32 (n32 a b) (n32 a c)) (n32 b c)
def t1S (e f g h k w:Nat):Nat:=a32 (a32 (a32 (a32 h (b1S e)) (chS e f g)) k) w
def t2S (a b c:Nat):Nat:=a32 (b0S a) (mjS a b c)
def t1R (e f g h k w:Nat):Nat:=a32 (a32 (a32 (a32 h (b1R e)) (chR e f g)) k) w
def t2R (a b c:Nat):Nat:=a32 (b0R a) (mjR a b c)
end F
def zsG:List Nat:=[3329325298,3204031479,2756734187,2428436474,2361852424,2227730452,2024104815,1955562222,1747873779,1537002063,1322822218,958139571,883997877,659060556,506948616,430227734,275423344,4094571909,3600352804,3516065817,3345764771,3259730800,2820302411,2730485921,2456956037,2177026350,1986661051,1695183700,1396182291,1294757372,773529912,666307205,338241895,113926993,3584528711,3336571891,3210313671,2952996808,2821834349,2554220882,1996064986,1555081692,1249150122,770255983,604807628,264347078,4022224774,3835390401,3248222580,2614888103,2162078206,1925078388,1426881987,607225278,310598401,3624381080,2870763221,2453635748,1508970993,961987163,3921009573,3049323471,1899447441,1116352408]
theorem ziB:zpN 64=zsG:=by decide +kernel
theorem zvb (s:S.St) (k w:Nat):F.t1S s.e s.f s.g s.h k w=S.t1 s k w:=rfl
theorem zvc (s:S.St):F.t2S s.a s.b s.c=S.t2 s:=rfl
theorem zvd (s:S.St) (k w:Nat):F.t1R s.e s.f s.g s.h k w=R.t1 s k w:=rfl
theorem zve (s:S.St):F.t2R s.a s.b s.c=R.t2 s:=rfl
theorem zsH (w:Nat→Nat) (s:S.St):∀ t,X5 F.t1S F.t2S w s t=S.rounds w s t
 | 0=>rfl
 | t + 1=>by
  show ziE F.t1S F.t2S (x9.getD t 0) (w t) (X5 F.t1S F.t2S w s t)=S.rnd (x9.getD t 0) (w t) (S.rounds w s t)
  rw[zsH w s t]
  unfold ziE S.rnd
  rw[zvb,zvc]
theorem zsI (w:Nat→Nat) (s:S.St):∀ t,X5 F.t1R F.t2R w s t=R.rounds w s t
 | 0=>rfl
 | t + 1=>by
  show ziE F.t1R F.t2R (x9.getD t 0) (w t) (X5 F.t1R F.t2R w s t)=R.rnd (x9.getD t 0) (w t) (R.rounds w s t)
  rw[zsI w s t]
  unfold ziE R.rnd
  rw[zvd,zve]
theorem zvf (y off:Nat):F.ldS y off=S.load32 fun i=>pkr .u8 y (off + i):=by funext t; rfl
theorem zvg (y off:Nat):F.ldR y off=R.load32 fun i=>pkr .u8 y (off + i):=by funext t; rfl
theorem zvh:F.nwS=S.nextW:=rfl
theorem zvi:F.nwR=R.nextW:=rfl
def zev (ld:Nat→Nat) (nw:Nat→Nat→Nat→Nat→Nat) (T1:Nat→Nat→Nat→Nat→Nat→Nat→Nat) (T2:Nat→Nat→Nat→Nat) (x:Nat) (K:Nat→Prop):Prop :=
 zx (pkr .u32 x 0) fun a=>zx (pkr .u32 x 1) fun b=>zx (pkr .u32 x 2) fun c=>zx (pkr .u32 x 3) fun d=>zx (pkr .u32 x 4) fun e=>zx (pkr .u32 x 5) fun f=>zx (pkr .u32 x 6) fun g=>zx (pkr .u32 x 7) fun h =>
  gF ld nw 64 fun ws=>rF T1 T2 a b c d e f g h ws zsG fun a' b' c' d' e' f' g' h'=>pk8 (F.a32 a a') (F.a32 b b') (F.a32 c c') (F.a32 d d') (F.a32 e e') (F.a32 f f') (F.a32 g g') (F.a32 h h') K
theorem w5 (a b:Nat):F.a32 a b < 4294967296:=Nat.mod_lt _ (by decide)
theorem zew {ld:Nat→Nat}{nw:Nat→Nat→Nat→Nat→Nat}{T1:Nat→Nat→Nat→Nat→Nat→Nat→Nat}{T2:Nat→Nat→Nat→Nat}{x:Nat}{K:Nat→Prop}(h:zev ld nw T1 T2 x K) :
  ∃ z,K z∧∀ j,j < 8→pkr .u32 z j=S.add32 (pkr .u32 x j) ((X5 T1 T2 (fun j=>(S.gL ld nw 64).getD (63 - j) 0) (S.stOf fun i=>pkr .u32 x i) 64).get j):=by
 unfold zev at h
 simp only[zy,zsJ] at h
 rw[←ziB] at h
 have h1:=zsK T1 T2 ld nw (S.stOf fun i=>pkr .u32 x i) 64 (fun a' b' c' d' e' f' g' h'=>pk8 (F.a32 (pkr .u32 x 0) a') (F.a32 (pkr .u32 x 1) b') (F.a32 (pkr .u32 x 2) c') (F.a32 (pkr .u32 x 3) d') (F.a32 (pkr .u32 x 4) e') (F.a32 (pkr .u32 x 5) f') (F.a32 (pkr .u32 x 6) g') (F.a32 (pkr .u32 x 7) h') K) (Nat.le_refl _)
 rw[show rF T1 T2 (S.stOf fun i=>pkr .u32 x i).a (S.stOf fun i=>pkr .u32 x i).b (S.stOf fun i=>pkr .u32 x i).c (S.stOf fun i=>pkr .u32 x i).d (S.stOf fun i=>pkr .u32 x i).e (S.stOf fun i=>pkr .u32 x i).f (S.stOf fun i=>pkr .u32 x i).g (S.stOf fun i=>pkr .u32 x i).h=rF T1 T2 (pkr .u32 x 0) (pkr .u32 x 1) (pkr .u32 x 2) (pkr .u32 x 3) (pkr .u32 x 4) (pkr .u32 x 5) (pkr .u32 x 6) (pkr .u32 x 7) from rfl] at h1
 rw[h1] at h
 generalize X5 T1 T2 (fun j=>(S.gL ld nw 64).getD (63 - j) 0) (S.stOf fun i=>pkr .u32 x i) 64=r at h ⊢
 unfold pk8 at h
 rw[zy] at h
 refine⟨_,h,fun j hj=>?_⟩
 rw[show ∀ z,pkr .u32 z j=pkr .u32 z j from fun _=>rfl]
 refine (zvl (w5 _ _) (w5 _ _) (w5 _ _) (w5 _ _) (w5 _ _) (w5 _ _) (w5 _ _) (w5 _ _) j hj).trans ?_
 match j,hj with
 | 0,_=>rfl
 | 1,_=>rfl
 | 2,_=>rfl
 | 3,_=>rfl
 | 4,_=>rfl
 | 5,_=>rfl
 | 6,_=>rfl
 | 7,_=>rfl
def la2 (l:List KV) (f:KV→KV→Prop):Prop:=match l with
 | [x,y]=>f x y
 | _=>BadN 230
theorem X4 {l:List KV}{f:KV→KV→Prop}(h:la2 l f):∃ x y,l=[x,y]∧f x y:=by
 unfold la2 at h
 split at h
 ·exact⟨_,_,rfl,h⟩
 ·exact h.elim
def Zg:zg:=fun l K=>la2 l fun x y=>wE (fun k n h=>chk (nd (xq k .u32) (Nat.beq n 8)) 231 (wE (fun k2 n2 b=>chk (nd (xq k2 .u8) (Nat.beq n2 64)) 232 (zev (F.ldS b 0) F.nwS F.t1S F.t2S h fun z=>K (.pk .u32 8 z))) (BadN 233) y)) (BadN 234) x
def Zh:zg:=fun l K=>la2 l fun x y=>wE (fun k n h=>chk (nd (xq k .u32) (Nat.beq n 8)) 235 (Jy (fun u cl e off len c=>chk (nd (va e) (Nat.beq len 64)) 236 (wE (fun k2 n2 b=>chk (xq k2 .u8) 237 (zev (F.ldR b off) F.nwR F.t1R F.t2R h fun z=>K (.pk .u32 8 z))) (BadN 238) c)) (BadN 239) y)) (BadN 240) x
theorem ziC:∀ i,i < 2→pkg .i64 608742554432415203373 i=Int.ofNat (zlv.getD i 0):=by decide +kernel
theorem zpL:∀ i,i < 8→pkg .u32 41557658498906279274860226408925318911382702236748615442085426012007055353447 i=Int.ofNat (zti.getD i 0):=by decide +kernel
theorem ziD:∀ i,i < 64→pkg .u32 25051139735836467913601071899189108501681633092613316132753366958947502841281110980347811086624969305314199562795868290539880502533646505489797110349007385020507326982043050618112420254613810441709594605123090411975756494285771699200369901479195251226368983824020564277645963860728452821576845901498668417244438721537663670541944820957180957595559282976806173113161068298822071065329290006052849814285001949914564097058408480133985233335799884203712730341384999677089997083749077591931498939520449886954646413138343858395935213418018409268340744776361518554939863400075967197509182087778881547827184266701615699472280 i=Int.ofNat (x9.getD i 0):=by decide +kernel
theorem zvj (g:Nat):Imp (@Gl.G _ g) (GL g):=by
 match g with
 | 0=>exact Imp.refE (Imp.arrE fun i hi=>by rw[ziC i hi]; rfl)
 | 1=>exact Imp.refE (Imp.arrE fun i hi=>by rw[zpL i hi]; rfl)
 | 2=>exact Imp.refE (Imp.arrE fun i hi=>by rw[ziD i hi]; rfl)
 | 3=>exact Imp.refl _
 | _ + 4=>exact Imp.refl _
theorem csg {P:Program}{f:FuncId}{c:CSpec}(h:@xF glL P f c):xF P f c :=
 ⟨h.1,fun C args vals h1 h2=>h.2 C args vals h1 fun g=>zvj g _ _ (h2 g)⟩
end
end Go.K
set_option maxRecDepth 100000
namespace Go.K
open Go.Ab Go.RowKit Go.Y Go.Proofs
noncomputable section
theorem jO:∀ l:List V,unL (mkL l)=l
 | []=>rfl
 | x::l=>by show x::unL (mkL l)=_; rw[jO l]
theorem VE {k:IntKind}{n:Nat}{f:Nat→V}(g:Nat→Nat) (h:∀ i,f i=wV k (g i)):v6 k n f=true:=by
 unfold v6
 rw[List.all_eq_true]
 intro i _
 rw[h i]
 show xq k k=true
 cases k<;>rfl
theorem XU:KCS Tryz.prog 276 Zg:=by
 have hc:=csg zeO
 refine⟨hc.1,fun l K hs=>?_⟩
 obtain⟨x,y,rfl,h1⟩:=X4 hs
 rcases xJ h1 with ⟨k,n,h,rfl,h2⟩ | ⟨_,h2⟩
 ·obtain⟨h3,h4⟩:=zd h2
  obtain⟨h5,h6⟩:=za.1 h3
  obtain rfl:=zJ h5
  obtain rfl:=zO h6
  rcases xJ h4 with ⟨k2,n2,b,rfl,h7⟩ | ⟨_,h7⟩
  ·obtain⟨h8,h9⟩:=zd h7
   obtain⟨h10,h11⟩:=za.1 h8
   obtain rfl:=zJ h10
   obtain rfl:=zO h11
   obtain⟨z,h12,h13⟩:=zew h9
   refine⟨_,h12,fun B μ nx mx l0 hl=>?_⟩
   have hcall:=vk (B:=B) (μ:=μ) (nx:=nx) (mx:=mx) gnL hc rfl hl (by
    rw[jO,List.map_cons,List.map_cons,List.map_nil,wF,wF]
    show (v6 .u32 8 (fun i=>.int .u32 (pkg .u32 h i))&&v6 .u8 64 (fun i=>.int .u8 (pkg .u8 b i)))=true
    rw[Bool.and_eq_true]
    exact⟨VE (fun i=>pkr .u32 h i) fun i=>rfl,VE (fun i=>pkr .u8 b i) fun i=>rfl⟩)
   rw[jO] at hcall
   refine hcall.imp ?_ (MImp.refl _) (Nat.le_refl _) (Nat.le_refl _)
   refine Imp.arrE (g:=fun i=>V.int .u32 (pkg .u32 z i)) fun i hi=>?_
   show wV .u32 (S.comp (fun i=>pkr .u32 h i) (fun i=>pkr .u8 b i) i)=wV .u32 (pkr .u32 z i)
   rw[h13 i hi,zvf,zvh,zsH]
   simp only[Nat.zero_add]
   rfl
  ·exact h7.elim
 ·exact h2.elim
theorem XV:KCS Tryz.prog 190 Zh:=by
 have hc:=csg zeZ
 refine⟨hc.1,fun l K hs=>?_⟩
 obtain⟨x,y,rfl,h1⟩:=X4 hs
 rcases xJ h1 with ⟨k,n,h,rfl,h2⟩ | ⟨_,h2⟩
 ·obtain⟨h3,h4⟩:=zd h2
  obtain⟨h5,h6⟩:=za.1 h3
  obtain rfl:=zJ h5
  obtain rfl:=zO h6
  rcases vI h4 with ⟨u,cl,e,off,len,c,rfl,h7⟩ | ⟨_,h7⟩
  ·obtain⟨h8,h9⟩:=zd h7
   obtain⟨h10,h11⟩:=za.1 h8
   obtain rfl:=qg h10
   obtain rfl:=zO h11
   rcases xJ h9 with ⟨k2,n2,b,rfl,h14⟩ | ⟨_,h14⟩
   ·obtain⟨h15,h16⟩:=zd h14
    obtain rfl:=zJ h15
    obtain⟨z,h12,h13⟩:=zew h16
    refine⟨_,h12,fun B μ nx mx l0 hl=>?_⟩
    have hcall:=vk (B:=B) (μ:=μ) (nx:=nx) (mx:=mx) gnL hc rfl hl (by
     rw[jO,List.map_cons,List.map_cons,List.map_nil,wF,ZX,wF]
     show (v6 .u32 8 (fun i=>.int .u32 (pkg .u32 h i))&&v6 .u8 64 (fun i=>.int .u8 (pkg .u8 b (off + i))))=true
     rw[Bool.and_eq_true]
     exact⟨VE (fun i=>pkr .u32 h i) fun i=>rfl,VE (fun i=>pkr .u8 b (off + i)) fun i=>rfl⟩)
    rw[jO] at hcall
    refine hcall.imp ?_ (MImp.refl _) (Nat.le_refl _) (Nat.le_refl _)
    refine Imp.arrE (g:=fun i=>V.int .u32 (pkg .u32 z i)) fun i hi=>?_
    show wV .u32 (R.comp (fun i=>pkr .u32 h i) (fun i=>pkr .u8 b (off + i)) i)=wV .u32 (pkr .u32 z i)
    rw[h13 i hi,zvg,zvi,zsI]
    rfl
   ·exact h14.elim
  ·exact h7.elim
 ·exact h2.elim
def ctC:FuncId→Option zg:=fun f=>@Bool.rec (fun _=>Option zg) (@Bool.rec (fun _=>Option zg) none (some Zh) (Nat.beq f 190)) (some Zg) (Nat.beq f 276)
theorem zCT (f:FuncId) (s:zg) (h:ctC f=some s):KCS Tryz.prog f s:=by
 unfold ctC at h
 cases h1:Nat.beq f 276 with
 | true =>
  rw[h1] at h
  cases h
  rw[zO h1]
  exact XU
 | false =>
  rw[h1] at h
  cases h2:Nat.beq f 190 with
  | true =>
   rw[h2] at h
   cases h
   rw[zO h2]
   exact XV
  | false=>rw[h2] at h; cases h
def E1:KEnv:={ E0 with ct:=ctC }
theorem ok1:KOk E1 where
 fns:=yj
 ct:=zCT
 gn:=gnL
 mixed:=zxP
 ex:=fun _ h=>(by cases h)
end
end Go.K
