/- The compressions, worked out on packed words. No condition. The compressions as contracts of the run. No condition. The compressions as contracts of the run, joined. No condition. -/
import Derived.Test.YtfpmealbbibhpaaGreatDoorYL2
import Derived.Test.YtfpmealbbibhpaaGreatDoorKL0
set_option linter.unusedVariables false
set_option linter.unusedSimpArgs false
set_option maxRecDepth 100000
namespace Go.K
open Go.Ab Go.RowKit Go.Y Go.Proofs
noncomputable section
def nthN (l:List Nat):Nat→Nat:=@List.rec Nat (fun _=>Nat→Nat) (fun _=>0) (fun x _ ih i=>@Nat.rec (fun _=>Nat) x (fun j _=>ih j) i) l
theorem nthN_eq:∀(l:List Nat) (i:Nat),nthN l i=l.getD i 0
  | [],i=>rfl
  | x::l,0=>rfl
  | x::l,i + 1=>by
    show nthN l i=_
    rw[nthN_eq l i,List.getD_cons_succ]
def gF (ld:Nat→Nat) (nw:Nat→Nat→Nat→Nat→Nat) (n:Nat):(List Nat→Prop)→Prop :=
  @Nat.rec (fun _=>(List Nat→Prop)→Prop) (fun K=>K []) (fun t ih K=>ih fun l=>forceN (@Bool.rec (fun _=>Nat) (nw (nthN l 14) (nthN l 1) (nthN l 6) (nthN l 15)) (ld t) (Nat.blt t 16)) fun w=>K (w::l)) n
theorem gF_eq (ld:Nat→Nat) (nw:Nat→Nat→Nat→Nat→Nat):∀(n:Nat) (K:List Nat→Prop),gF ld nw n K=K (S.gL ld nw n)
  | 0,K=>rfl
  | n + 1,K=>by
    show gF ld nw n (fun l=>forceN (@Bool.rec (fun _=>Nat) (nw (nthN l 14) (nthN l 1) (nthN l 6) (nthN l 15)) (ld n) (Nat.blt n 16)) fun w=>K (w::l))=_
    rw[gF_eq ld nw n,forceN_eq]
    simp only[nthN_eq,S.gL]
    congr 2
    by_cases h:n < 16
    · rw[show Nat.blt n 16=true by rw[Nat.blt_eq]; exact h,show decide (n < 16)=true by simpa using h]; rfl
    · rw[show Nat.blt n 16=false by rw[Bool.eq_false_iff]; intro h2; rw[Nat.blt_eq] at h2; exact h h2,show decide (n < 16)=false by simpa using h]; rfl
theorem gS_stable (ld:Nat→Nat) (nw:Nat→Nat→Nat→Nat→Nat) (j:Nat):∀ k,S.gS ld nw (j + 1 + k) j=S.gS ld nw (j + 1) j
  | 0=>rfl
  | k + 1=>by
    rw[←gS_stable ld nw j k]
    show (bif j==j + 1 + k then _ else _)=_
    rw[show (j==j + 1 + k)=false by simp; omega,cond_false]
    rfl
theorem gL_head (ld:Nat→Nat) (nw:Nat→Nat→Nat→Nat→Nat) {t:Nat}(h:t < 64):S.gL ld nw (t + 1)=(S.gL ld nw 64).getD (63 - t) 0::S.gL ld nw t:=by
  have h1:=S.gS_gL ld nw (t + 1) t (by omega)
  have h2:=S.gS_gL ld nw 64 t h
  have h3:=gS_stable ld nw t (63 - t)
  rw[show t + 1 + (63 - t)=64 by omega] at h3
  rw[h3,h1] at h2
  rw[show 64 - 1 - t=63 - t by omega] at h2
  rw[←h2,show t + 1 - 1 - t=0 by omega]
  simp only[S.gL,List.getD_cons_zero]
section
variable (T1:Nat→Nat→Nat→Nat→Nat→Nat→Nat) (T2:Nat→Nat→Nat→Nat)
def rndG (k w:Nat) (s:S.St):S.St:=⟨S.add32 (T1 s.e s.f s.g s.h k w) (T2 s.a s.b s.c),s.a,s.b,s.c,S.add32 s.d (T1 s.e s.f s.g s.h k w),s.e,s.f,s.g⟩
def rndsG (w:Nat→Nat) (s:S.St):Nat→S.St
  | 0=>s
  | t + 1=>rndG T1 T2 (constL.getD t 0) (w t) (rndsG w s t)
abbrev K8:Type:=Nat→Nat→Nat→Nat→Nat→Nat→Nat→Nat→Prop
def rF (a b c d e f g h:Nat) (ws:List Nat):List Nat→K8→Prop :=
  @List.rec Nat (fun _=>List Nat→K8→Prop) (fun _ K=>K a b c d e f g h) (fun w _ ih ks K=>@List.rec Nat (fun _=>Prop) True (fun k kr _=>ih kr fun a b c d e f g h =>
    forceN (T1 e f g h k w) fun x=>forceN (Nat.mod (Nat.add x (T2 a b c)) 4294967296) fun a'=>forceN (Nat.mod (Nat.add d x) 4294967296) fun e'=>K a' a b c e' e f g) ks) ws
def krev:Nat→List Nat
  | 0=>[]
  | t + 1=>constL.getD t 0::krev t
theorem rF_eq (ld:Nat→Nat) (nw:Nat→Nat→Nat→Nat→Nat) (s:S.St):∀(t:Nat) (K:K8),t≤64→rF T1 T2 s.a s.b s.c s.d s.e s.f s.g s.h (S.gL ld nw t) (krev t) K=(fun r:S.St=>K r.a r.b r.c r.d r.e r.f r.g r.h) (rndsG T1 T2 (fun j=>(S.gL ld nw 64).getD (63 - j) 0) s t)
  | 0,K,_=>rfl
  | t + 1,K,h=>by
    rw[gL_head ld nw (by omega)]
    show rF T1 T2 s.a s.b s.c s.d s.e s.f s.g s.h (S.gL ld nw t) (krev t) _=_
    rw[rF_eq ld nw s t _ (by omega)]
    simp only[forceN_eq]
    rfl
end
def pk8 (a b c d e f g h:Nat) (K:Nat→Prop):Prop :=
  forceN (Nat.add a (Nat.mul 4294967296 (Nat.add b (Nat.mul 4294967296 (Nat.add c (Nat.mul 4294967296 (Nat.add d (Nat.mul 4294967296 (Nat.add e (Nat.mul 4294967296 (Nat.add f (Nat.mul 4294967296 (Nat.add g (Nat.mul 4294967296 h)))))))))))))) K
theorem bts_eq (x o l:Nat):bts x o l=x / 2 ^ o % 2 ^ l:=by
  show (x >>> o) % 2 ^ l=_
  rw[Nat.shiftRight_eq_div_pow]
theorem pk8_at {a b c d e f g h:Nat}(ha:a < 4294967296) (hb:b < 4294967296) (hc:c < 4294967296) (hd:d < 4294967296) (he:e < 4294967296) (hf:f < 4294967296) (hg:g < 4294967296) (hh:h < 4294967296) :
    ∀ j,j < 8→pkr .u32 (a + 4294967296 * (b + 4294967296 * (c + 4294967296 * (d + 4294967296 * (e + 4294967296 * (f + 4294967296 * (g + 4294967296 * h))))))) j=[a,b,c,d,e,f,g,h].getD j 0:=by
  intro j hj
  show bts _ (32 * j) 32=_
  rw[bts_eq]
  match j,hj with
  | 0,_=>show _ / 1 % 4294967296=a; omega
  | 1,_=>show _ / 4294967296 % 4294967296=b; omega
  | 2,_=>show _ / (4294967296 * 4294967296) % 4294967296=c; omega
  | 3,_=>show _ / (4294967296 * 4294967296 * 4294967296) % 4294967296=d; omega
  | 4,_=>show _ / (4294967296 * 4294967296 * 4294967296 * 4294967296) % 4294967296=e; omega
  | 5,_=>show _ / (4294967296 * 4294967296 * 4294967296 * 4294967296 * 4294967296) % 4294967296=f; omega
  | 6,_=>show _ / (4294967296 * 4294967296 * 4294967296 * 4294967296 * 4294967296 * 4294967296) % 4294967296=g; omega
  | 7,_=>show _ / (4294967296 * 4294967296 * 4294967296 * 4294967296 * 4294967296 * 4294967296 * 4294967296) % 4294967296=h; omega
end
end Go.K
set_option maxRecDepth 100000
namespace Go.K
open Go.Ab Go.RowKit Go.Y Go.Proofs
noncomputable section
namespace F
def a32 (x y:Nat):Nat:=Nat.mod (Nat.add x y) 4294967296
def x32 (x y:Nat):Nat:=Nat.mod (Nat.xor x y) 4294967296
def n32 (x y:Nat):Nat:=Nat.mod (Nat.land x y) 4294967296
def o32 (x y:Nat):Nat:=Nat.mod (Nat.lor x y) 4294967296
def not32 (x:Nat):Nat:=Nat.mod (Nat.xor 4294967295 x) 4294967296
def rotS (a l r:Nat):Nat:=Nat.mod (Nat.lor (Nat.mod (Nat.mul a l) 4294967296) (Nat.div a r)) 4294967296
def rotR (a l r:Nat):Nat:=Nat.mod (Nat.lor (Nat.div a r) (Nat.mod (Nat.mul a l) 4294967296)) 4294967296
def by8 (y off t i:Nat):Nat:=Nat.mod (pkr .u8 y (Nat.add off (Nat.add (Nat.mul 4 t) i))) 18446744073709551616
def o64 (x y:Nat):Nat:=Nat.mod (Nat.lor x y) 18446744073709551616
def p64 (x y:Nat):Nat:=Nat.mod (Nat.add x y) 18446744073709551616
def l64 (x:Nat):Nat:=Nat.mod (Nat.mul x 256) 18446744073709551616
def ldS (y off t:Nat):Nat:=Nat.mod (o64 (l64 (o64 (l64 (o64 (l64 (o64 0 (by8 y off t 0))) (by8 y off t 1))) (by8 y off t 2))) (by8 y off t 3)) 4294967296
def ldR (y off t:Nat):Nat:=Nat.mod (p64 (l64 (p64 (l64 (p64 (l64 (p64 (l64 0) (by8 y off t 0))) (by8 y off t 1))) (by8 y off t 2))) (by8 y off t 3)) 4294967296
def s0S (x:Nat):Nat:=x32 (x32 (rotS x 33554432 128) (rotS x 16384 262144)) (Nat.div x 8)
def s1S (y:Nat):Nat:=x32 (x32 (rotS y 32768 131072) (rotS y 8192 524288)) (Nat.div y 1024)
def nwS (w15 w2 w7 w16:Nat):Nat:=a32 (a32 (a32 (s1S w2) w7) (s0S w15)) w16
def s0R (x:Nat):Nat:=x32 (x32 (rotR x 33554432 128) (rotR x 16384 262144)) (Nat.div x 8)
def s1R (y:Nat):Nat:=x32 (x32 (rotR y 32768 131072) (rotR y 8192 524288)) (Nat.div y 1024)
def nwR (w15 w2 w7 w16:Nat):Nat:=a32 (a32 (a32 w16 w7) (s0R w15)) (s1R w2)
def b1S (e:Nat):Nat:=x32 (x32 (rotS e 67108864 64) (rotS e 2097152 2048)) (rotS e 128 33554432)
def b0S (a:Nat):Nat:=x32 (x32 (rotS a 1073741824 4) (rotS a 524288 8192)) (rotS a 1024 4194304)
def b1R (e:Nat):Nat:=x32 (x32 (rotR e 67108864 64) (rotR e 2097152 2048)) (rotR e 128 33554432)
def b0R (a:Nat):Nat:=x32 (x32 (rotR a 1073741824 4) (rotR a 524288 8192)) (rotR a 1024 4194304)
def chS (e f g:Nat):Nat:=x32 (n32 e f) (n32 (not32 e) g)
def mjS (a b c:Nat):Nat:=x32 (x32 (n32 a b) (n32 a c)) (n32 b c)
def chR (e f g:Nat):Nat:=o32 (n32 e f) (n32 (not32 e) g)
def mjR (a b c:Nat):Nat:=o32 (o32 (n32 a b) (n32 a c)) (n32 b c)
def t1S (e f g h k w:Nat):Nat:=a32 (a32 (a32 (a32 h (b1S e)) (chS e f g)) k) w
def t2S (a b c:Nat):Nat:=a32 (b0S a) (mjS a b c)
def t1R (e f g h k w:Nat):Nat:=a32 (a32 (a32 (a32 h (b1R e)) (chR e f g)) k) w
def t2R (a b c:Nat):Nat:=a32 (b0R a) (mjR a b c)
end F
def krevL:List Nat:=[3329325298,3204031479,2756734187,2428436474,2361852424,2227730452,2024104815,1955562222,1747873779,1537002063,1322822218,958139571,883997877,659060556,506948616,430227734,275423344,4094571909,3600352804,3516065817,3345764771,3259730800,2820302411,2730485921,2456956037,2177026350,1986661051,1695183700,1396182291,1294757372,773529912,666307205,338241895,113926993,3584528711,3336571891,3210313671,2952996808,2821834349,2554220882,1996064986,1555081692,1249150122,770255983,604807628,264347078,4022224774,3835390401,3248222580,2614888103,2162078206,1925078388,1426881987,607225278,310598401,3624381080,2870763221,2453635748,1508970993,961987163,3921009573,3049323471,1899447441,1116352408]
theorem krevL_eq:krev 64=krevL:=by decide +kernel
theorem t1S_eq (s:S.St) (k w:Nat):F.t1S s.e s.f s.g s.h k w=S.t1 s k w:=rfl
theorem t2S_eq (s:S.St):F.t2S s.a s.b s.c=S.t2 s:=rfl
theorem t1R_eq (s:S.St) (k w:Nat):F.t1R s.e s.f s.g s.h k w=R.t1 s k w:=rfl
theorem t2R_eq (s:S.St):F.t2R s.a s.b s.c=R.t2 s:=rfl
theorem rS_eq (w:Nat→Nat) (s:S.St):∀ t,rndsG F.t1S F.t2S w s t=S.rounds w s t
  | 0=>rfl
  | t + 1=>by
    show rndG F.t1S F.t2S (constL.getD t 0) (w t) (rndsG F.t1S F.t2S w s t)=S.rnd (constL.getD t 0) (w t) (S.rounds w s t)
    rw[rS_eq w s t]
    unfold rndG S.rnd
    rw[t1S_eq,t2S_eq]
theorem rR_eq (w:Nat→Nat) (s:S.St):∀ t,rndsG F.t1R F.t2R w s t=R.rounds w s t
  | 0=>rfl
  | t + 1=>by
    show rndG F.t1R F.t2R (constL.getD t 0) (w t) (rndsG F.t1R F.t2R w s t)=R.rnd (constL.getD t 0) (w t) (R.rounds w s t)
    rw[rR_eq w s t]
    unfold rndG R.rnd
    rw[t1R_eq,t2R_eq]
theorem ldS_eq (y off:Nat):F.ldS y off=S.load32 fun i=>pkr .u8 y (off + i):=by funext t; rfl
theorem ldR_eq (y off:Nat):F.ldR y off=R.load32 fun i=>pkr .u8 y (off + i):=by funext t; rfl
theorem nwS_eq:F.nwS=S.nextW:=rfl
theorem nwR_eq:F.nwR=R.nextW:=rfl
def compF (ld:Nat→Nat) (nw:Nat→Nat→Nat→Nat→Nat) (T1:Nat→Nat→Nat→Nat→Nat→Nat→Nat) (T2:Nat→Nat→Nat→Nat) (x:Nat) (K:Nat→Prop):Prop :=
  forceN (pkr .u32 x 0) fun a=>forceN (pkr .u32 x 1) fun b=>forceN (pkr .u32 x 2) fun c=>forceN (pkr .u32 x 3) fun d=>forceN (pkr .u32 x 4) fun e=>forceN (pkr .u32 x 5) fun f=>forceN (pkr .u32 x 6) fun g=>forceN (pkr .u32 x 7) fun h =>
    gF ld nw 64 fun ws=>rF T1 T2 a b c d e f g h ws krevL fun a' b' c' d' e' f' g' h'=>pk8 (F.a32 a a') (F.a32 b b') (F.a32 c c') (F.a32 d d') (F.a32 e e') (F.a32 f f') (F.a32 g g') (F.a32 h h') K
theorem a32_lt (a b:Nat):F.a32 a b < 4294967296:=Nat.mod_lt _ (by decide)
theorem compF_s {ld:Nat→Nat}{nw:Nat→Nat→Nat→Nat→Nat}{T1:Nat→Nat→Nat→Nat→Nat→Nat→Nat}{T2:Nat→Nat→Nat→Nat}{x:Nat}{K:Nat→Prop}(h:compF ld nw T1 T2 x K) :
    ∃ z,K z∧∀ j,j < 8→pkr .u32 z j=S.add32 (pkr .u32 x j) ((rndsG T1 T2 (fun j=>(S.gL ld nw 64).getD (63 - j) 0) (S.stOf fun i=>pkr .u32 x i) 64).get j):=by
  unfold compF at h
  simp only[forceN_eq,gF_eq] at h
  rw[←krevL_eq] at h
  have h1:=rF_eq T1 T2 ld nw (S.stOf fun i=>pkr .u32 x i) 64 (fun a' b' c' d' e' f' g' h'=>pk8 (F.a32 (pkr .u32 x 0) a') (F.a32 (pkr .u32 x 1) b') (F.a32 (pkr .u32 x 2) c') (F.a32 (pkr .u32 x 3) d') (F.a32 (pkr .u32 x 4) e') (F.a32 (pkr .u32 x 5) f') (F.a32 (pkr .u32 x 6) g') (F.a32 (pkr .u32 x 7) h') K) (Nat.le_refl _)
  rw[show rF T1 T2 (S.stOf fun i=>pkr .u32 x i).a (S.stOf fun i=>pkr .u32 x i).b (S.stOf fun i=>pkr .u32 x i).c (S.stOf fun i=>pkr .u32 x i).d (S.stOf fun i=>pkr .u32 x i).e (S.stOf fun i=>pkr .u32 x i).f (S.stOf fun i=>pkr .u32 x i).g (S.stOf fun i=>pkr .u32 x i).h=rF T1 T2 (pkr .u32 x 0) (pkr .u32 x 1) (pkr .u32 x 2) (pkr .u32 x 3) (pkr .u32 x 4) (pkr .u32 x 5) (pkr .u32 x 6) (pkr .u32 x 7) from rfl] at h1
  rw[h1] at h
  generalize rndsG T1 T2 (fun j=>(S.gL ld nw 64).getD (63 - j) 0) (S.stOf fun i=>pkr .u32 x i) 64=r at h ⊢
  unfold pk8 at h
  rw[forceN_eq] at h
  refine⟨_,h,fun j hj=>?_⟩
  rw[show ∀ z,pkr .u32 z j=pkr .u32 z j from fun _=>rfl]
  refine (pk8_at (a32_lt _ _) (a32_lt _ _) (a32_lt _ _) (a32_lt _ _) (a32_lt _ _) (a32_lt _ _) (a32_lt _ _) (a32_lt _ _) j hj).trans ?_
  match j,hj with
  | 0,_=>rfl
  | 1,_=>rfl
  | 2,_=>rfl
  | 3,_=>rfl
  | 4,_=>rfl
  | 5,_=>rfl
  | 6,_=>rfl
  | 7,_=>rfl
def la2 (l:List KV) (f:KV→KV→Prop):Prop:=match l with
  | [x,y]=>f x y
  | _=>BadN 230
theorem la2_s {l:List KV}{f:KV→KV→Prop}(h:la2 l f):∃ x y,l=[x,y]∧f x y:=by
  unfold la2 at h
  split at h
  · exact⟨_,_,rfl,h⟩
  · exact h.elim
def sCompS:KSpec:=fun l K=>la2 l fun x y=>onPk (fun k n h=>chk (nd (ikEq k .u32) (Nat.beq n 8)) 231 (onPk (fun k2 n2 b=>chk (nd (ikEq k2 .u8) (Nat.beq n2 64)) 232 (compF (F.ldS b 0) F.nwS F.t1S F.t2S h fun z=>K (.pk .u32 8 z))) (BadN 233) y)) (BadN 234) x
def sCompR:KSpec:=fun l K=>la2 l fun x y=>onPk (fun k n h=>chk (nd (ikEq k .u32) (Nat.beq n 8)) 235 (onRo (fun u cl e off len c=>chk (nd (isScB e) (Nat.beq len 64)) 236 (onPk (fun k2 n2 b=>chk (ikEq k2 .u8) 237 (compF (F.ldR b off) F.nwR F.t1R F.t2R h fun z=>K (.pk .u32 8 z))) (BadN 238) c)) (BadN 239) y)) (BadN 240) x
theorem sizes_eq:∀ i,i < 2→pkg .i64 608742554432415203373 i=Int.ofNat (sizesL.getD i 0):=by decide +kernel
theorem init_eq:∀ i,i < 8→pkg .u32 41557658498906279274860226408925318911382702236748615442085426012007055353447 i=Int.ofNat (initL.getD i 0):=by decide +kernel
theorem const_eq:∀ i,i < 64→pkg .u32 25051139735836467913601071899189108501681633092613316132753366958947502841281110980347811086624969305314199562795868290539880502533646505489797110349007385020507326982043050618112420254613810441709594605123090411975756494285771699200369901479195251226368983824020564277645963860728452821576845901498668417244438721537663670541944820957180957595559282976806173113161068298822071065329290006052849814285001949914564097058408480133985233335799884203712730341384999677089997083749077591931498939520449886954646413138343858395935213418018409268340744776361518554939863400075967197509182087778881547827184266701615699472280 i=Int.ofNat (constL.getD i 0):=by decide +kernel
theorem imp_unk {u:Bool}{c:V}:Imp (.ref u .sc c) .unk:=fun C m h=>by
  obtain⟨b,o,h1,_,_⟩:=h
  cases m with
  | cel s g off=>exact⟨h1.1,_,h1.2,rfl⟩
  | val v=>trivial
  | list l=>exact h1.elim
theorem gl_imp (g:Nat):Imp (@Gl.G _ g) (GL g):=by
  match g with
  | 0=>exact imp_unk
  | 1=>exact Imp.refE (Imp.arrE fun i hi=>by rw[sizes_eq i hi]; rfl)
  | 2=>exact imp_unk
  | 3=>exact Imp.refE (Imp.arrE fun i hi=>by rw[init_eq i hi]; rfl)
  | 4=>exact Imp.refE (Imp.arrE fun i hi=>by rw[const_eq i hi]; rfl)
  | _ + 5=>exact Imp.refl _
theorem csg {P:Program}{f:FuncId}{c:CSpec}(h:@CSoundG glL P f c):CSoundG P f c :=
  ⟨h.1,fun C args vals h1 h2=>h.2 C args vals h1 fun g=>gl_imp g _ _ (h2 g)⟩
end
end Go.K
set_option maxRecDepth 100000
namespace Go.K
open Go.Ab Go.RowKit Go.Y Go.Proofs
noncomputable section
theorem unL_mkL:∀ l:List V,unL (mkL l)=l
  | []=>rfl
  | x::l=>by show x::unL (mkL l)=_; rw[unL_mkL l]
theorem allW_of {k:IntKind}{n:Nat}{f:Nat→V}(g:Nat→Nat) (h:∀ i,f i=wV k (g i)):allW k n f=true:=by
  unfold allW
  rw[List.all_eq_true]
  intro i _
  rw[h i]
  show ikEq k k=true
  cases k<;>rfl
theorem kcs273:KCS Tryz.prog 273 sCompS:=by
  have hc:=csg k242_ok
  refine⟨hc.1,fun l K hs=>?_⟩
  obtain⟨x,y,rfl,h1⟩:=la2_s hs
  rcases onPk_inv h1 with ⟨k,n,h,rfl,h2⟩ | ⟨_,h2⟩
  · obtain⟨h3,h4⟩:=chk_inv h2
    obtain⟨h5,h6⟩:=nd_iff.1 h3
    obtain rfl:=ikEq_eq h5
    obtain rfl:=beqE h6
    rcases onPk_inv h4 with ⟨k2,n2,b,rfl,h7⟩ | ⟨_,h7⟩
    · obtain⟨h8,h9⟩:=chk_inv h7
      obtain⟨h10,h11⟩:=nd_iff.1 h8
      obtain rfl:=ikEq_eq h10
      obtain rfl:=beqE h11
      obtain⟨z,h12,h13⟩:=compF_s h9
      refine⟨_,h12,fun B μ nx mx l0 hl=>?_⟩
      have hcall:=con_call (B:=B) (μ:=μ) (nx:=nx) (mx:=mx) gnL hc rfl hl (by
        rw[unL_mkL,List.map_cons,List.map_cons,List.map_nil,v_pk,v_pk]
        show (allW .u32 8 (fun i=>.int .u32 (pkg .u32 h i))&&allW .u8 64 (fun i=>.int .u8 (pkg .u8 b i)))=true
        rw[Bool.and_eq_true]
        exact⟨allW_of (fun i=>pkr .u32 h i) fun i=>rfl,allW_of (fun i=>pkr .u8 b i) fun i=>rfl⟩)
      rw[unL_mkL] at hcall
      refine hcall.imp ?_ (MImp.refl _) (Nat.le_refl _) (Nat.le_refl _)
      refine Imp.arrE (g:=fun i=>V.int .u32 (pkg .u32 z i)) fun i hi=>?_
      show wV .u32 (S.comp (fun i=>pkr .u32 h i) (fun i=>pkr .u8 b i) i)=wV .u32 (pkr .u32 z i)
      rw[h13 i hi,ldS_eq,nwS_eq,rS_eq]
      simp only[Nat.zero_add]
      rfl
    · exact h7.elim
  · exact h2.elim
def ctC:FuncId→Option KSpec:=fun f=>@Bool.rec (fun _=>Option KSpec) none (some sCompS) (Nat.beq f 273)
theorem ctC_s (f:FuncId) (s:KSpec) (h:ctC f=some s):KCS Tryz.prog f s:=by
  unfold ctC at h
  cases h1:Nat.beq f 273 with
  | true =>
    rw[h1] at h
    cases h
    rw[beqE h1]
    exact kcs273
  | false=>rw[h1] at h; cases h
def E1:KEnv:={ E0 with ct:=ctC }
theorem ok1:KOk E1 where
  fns:=fnsL
  ct:=ctC_s
  gn:=gnL
  mixed:=mixL
  ex:=fun _ h=>(by cases h)
end
end Go.K
