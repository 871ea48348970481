/- Single operations: what is built, converted; all of them. No condition. -/
import Derived.Test.YthnhbdidiglcgaaGreatDoorK6m
set_option linter.unusedVariables false
set_option linter.unusedSimpArgs false
namespace Go.K
open Go.Ab Go.RowKit Go.Y
noncomputable section
variable [KGl]
section
variable {P : Program} {B : Nat} {o : Oper} {τ : Nat → KV} {lo : Nat} {zm : KZ} {nx : Nat} {K : KT}

/-! ### Slices that are made -/
def mkS (P : Program) (t : TypeId) : Option (TypeId × (Shape × KV)) := match P.underlying t with
  | some (.slice et) => match kzero? P et, P.info? et with
    | some sz, some i => if i.bytes ≤ 1048576 then some (et, sz) else none
    | _, _ => none
  | _ => none
theorem mkS_s {t : TypeId} {et : TypeId} {s : Shape} {z : KV} (h : mkS P t = some (et, s, z)) : P.underlying t = some (.slice et) ∧ zero? P et = some (s, z.v) ∧ ∃ i, P.info? et = some i ∧ i.bytes ≤ 1048576 := by
  unfold mkS at h
  split at h
  · rename_i e hu
    split at h
    · rename_i sz i hz hi
      split at h
      · rename_i hc
        simp only [Option.some.injEq, Prod.mk.injEq] at h
        obtain ⟨rfl, rfl⟩ := h
        exact ⟨hu, kzero?_s hz, i, hi, hc⟩
      · cases h
    · cases h
  · cases h
def kMkT (et : TypeId) (s : Shape) (z : KV) (same : Bool) (a b : Nat) (zm : KZ) (nx : Nat) (K : KT) : Prop :=
  @Bool.rec (fun _ => Prop) (nwB (.row et) (.arr a s) (kzarr a z) zm nx fun zm nx' => K (.row nx s a) zm nx' [] []) (nwB (.box et) (.arr b s) (kzarr b z) zm nx fun zm nx' => K (.sl nx [] s 0 a (some b)) zm nx' [] []) same
def kMake (P : Program) (t : TypeId) (same : Bool) (l c : KV) (zm : KZ) (nx : Nat) (K : KT) : Prop :=
  os 140 (pr fun et sz => pr (fun s z => onInt (fun _ a => onInt (fun _ b => cnd (mkB a b) (fN (natI a) fun a => fN (natI b) fun b => kMkT et s z same a b zm nx K)) (BadN 141) c) (BadN 142) l) sz) (mkS P t)
theorem kMake_s {t : TypeId} {l c : Operand} (ho : o.op = .makeSlice t l c) (h : kMake P t true (kev τ l) (kev τ c) zm nx K) : Out P B o τ lo zm nx K := by
  have hl := kev_v τ l
  have hc := kev_v τ c
  obtain ⟨⟨et, s, z⟩, h1, h2⟩ := os_inv h
  obtain ⟨hu, hz, i, hi, hb⟩ := mkS_s h1
  rcases onInt_inv (show onInt _ (BadN 142) (kev τ l) from h2) with ⟨_, a, ha, h3⟩ | ⟨_, h3⟩
  · rcases onInt_inv h3 with ⟨_, b, hb', h4⟩ | ⟨_, h4⟩
    · obtain ⟨h5, h6⟩ := cnd_iff.1 h4
      rw [fN_eq, fN_eq, natI_eq, natI_eq] at h6
      rw [ha] at hl; rw [hb'] at hc
      have hY : ∀ e, (RS.tst (mkB a b) e).is e := fun e => tstE h5
      refine Out.new (show nwB (.box et) (.arr b.toNat s) (kzarr b.toNat z) zm nx (fun zm nx' => K (.sl nx [] s 0 a.toNat (some b.toNat)) zm nx' [] []) from h6)
        (yMk_s (e := ⟨.sl nx [] s 0 a.toNat (some b.toNat), [], [⟨.box et, .arr b.toNat s, .arr b.toNat fun _ => z.v⟩], []⟩) ho ?_) (by rw [kzarr_v]; exact EImp.refl _)
      unfold yMk yMake
      simp only [hu, hz, hi, ← hl, ← hc, v_int]
      rw [if_pos hb]
      exact hY _
    · exact h4.elim
  · exact h3.elim

/-! ### What is built -/
/-- Parts set, one after the other. -/
def kparts (st : Bool) (sh : Nat → Option Shape) (l : List (Nat × KV)) : KV → (KV → Prop) → Prop := @List.rec (Nat × KV) (fun _ => KV → (KV → Prop) → Prop) (fun v K => K v)
  (fun x _ ih v K => os 143 (fun s => chk (kfits x.2 s) 144 (ksetP x.2 [bstep st x.1] v fun v => ih v K)) (sh x.1)) l
theorem kparts_s {st : Bool} {sh : Nat → Option Shape} {s : Shape} {pl : Nat → Option (Nat × Nat)} (hsh : ∀ i t, sh i = some t → ∃ d, s.step (bstep st i) = some (d, t) ∧ (pl i == some (d, t.size)) = true) :
    ∀ (l : List (Nat × KV)) (v : KV) (K : KV → Prop), kparts st sh l v K → ∃ v', K v' ∧ bok s st pl (l.map fun x => (x.1, x.2.v)) = true ∧ v'.v = bset st v.v (l.map fun x => (x.1, x.2.v))
  | [], v, K, h => ⟨v, h, rfl, rfl⟩
  | x :: l, v, K, h => by
    obtain ⟨t, h1, h2⟩ := os_inv (show os 143 (fun s => chk (kfits x.2 s) 144 (ksetP x.2 [bstep st x.1] v fun v => kparts st sh l v K)) (sh x.1) from h)
    obtain ⟨h3, h4⟩ := chk_inv h2
    obtain ⟨h5, h6⟩ := kfits_s h3
    obtain ⟨v1, h7, h8⟩ := ksetP_s _ _ _ _ h4
    obtain ⟨v', h9, h10, h11⟩ := kparts_s hsh l v1 K h7
    obtain ⟨d, h12, h13⟩ := hsh _ _ h1
    refine ⟨v', h9, ?_, ?_⟩
    · simp only [List.map_cons, bok, h12, h13, h5, h6, h10, Bool.and_self]
    · rw [h11, h8]; rfl
def bdS (P : Program) (t : TypeId) : Option ((Shape × KV) × Bool) := match kzero? P t, places P t with
  | some sz, some (st, _) => some (sz, st)
  | _, _ => none
/-- The shape of a part. -/
def bpS (P : Program) (t : TypeId) (i : Nat) : Option Shape := match kzero? P t, places P t with
  | some (s, _), some (st, pl) => match s.step (bstep st i) with
    | some (d, t) => if (pl i == some (d, t.size)) = true then some t else none
    | none => none
  | _, _ => none
def kBuild (P : Program) (t : TypeId) (ps : List (Nat × KV)) (zm : KZ) (nx : Nat) (K : KT) : Prop :=
  os 145 (pr fun sz st => pr (fun _ z => kparts st (bpS P t) ps z fun v => fV v fun v => K v zm nx [] []) sz) (bdS P t)
theorem map_ps {ps : List (Nat × Operand)} : (ps.map fun x => (x.1, kev τ x.2)).map (fun x => (x.1, x.2.v)) = ps.map fun x => (x.1, opv Gl.G (tv' τ) x.2) := by
  rw [List.map_map]
  exact List.map_congr_left fun x _ => by show (x.1, (kev τ x.2).v) = _; rw [kev_v]
theorem kBuild_s {t : TypeId} {ps : Array (Nat × Operand)} (ho : o.op = .build t ps) (h : kBuild P t (ps.toList.map fun x => (x.1, kev τ x.2)) zm nx K) : Out P B o τ lo zm nx K := by
  obtain ⟨⟨⟨s, z⟩, st⟩, h1, h2⟩ := os_inv h
  have h3 : kparts st (bpS P t) (ps.toList.map fun x => (x.1, kev τ x.2)) z (fun v => fV v fun v => K v zm nx [] []) := h2
  unfold bdS at h1
  split at h1
  · rename_i sz st' pl hz hp
    simp only [Option.some.injEq, Prod.mk.injEq] at h1
    obtain ⟨rfl, rfl⟩ := h1
    obtain ⟨v', h4, h5, h6⟩ := kparts_s (s := s) (pl := pl) (fun i t' hi => by
      unfold bpS at hi
      rw [hz, hp] at hi
      simp only at hi
      split at hi
      · rename_i d t2 hd
        split at hi
        · rename_i hc; cases hi; exact ⟨d, hd, hc⟩
        · cases hi
      · cases hi) _ _ _ h3
    rw [fV_eq] at h4
    rw [map_ps] at h5 h6
    refine Out.pure h4 (yBuild_s (e := pureE v'.v) ho ?_) (EImp.refl _)
    unfold yBuild
    rw [kzero?_s hz, hp]
    simp only
    rw [if_pos h5, bsetX_eq, h6]; rfl
  · cases h1
def bsS (P : Program) (t : TypeId) : Option (TypeId × (Shape × KV)) := match P.underlying t with
  | some (.slice et) => match kzero? P et with
    | some sz => some (et, sz)
    | none => none
  | _ => none
def bsB (s : Shape) (len : Nat) : Bool := nd (Nat.ble (Nat.mul len s.size) 16777216) (nd (Nat.blt 0 (Nat.mul len s.size)) true)
def bsP (s : Shape) (len i : Nat) : Option Shape := @Bool.rec (fun _ => Option Shape) none (some s) (Nat.blt i len)
def kBS (P : Program) (t : TypeId) (len : Nat) (ps : List (Nat × KV)) (zm : KZ) (nx : Nat) (K : KT) : Prop :=
  os 146 (pr fun et sz => pr (fun s z => @Bool.rec (fun _ => Prop) (chk (bsB s len) 147 (kparts false (bsP s len) ps (kzarr len z) fun v => nwB (.row et) (.arr len s) v zm nx fun zm nx' => K (.row nx s len) zm nx' [] []))
    (nwB (.row et) (.arr 0 s) (kzarr 0 z) zm nx fun zm nx' => K (.row nx s 0) zm nx' [] []) (nd (Nat.beq len 0) (ps.isEmpty))) sz) (bsS P t)
theorem kBS_s {t : TypeId} {len : Nat} {ps : Array (Nat × Operand)} (ho : o.op = .buildSlice t len ps) (h : kBS P t len (ps.toList.map fun x => (x.1, kev τ x.2)) zm nx K) : Out P B o τ lo zm nx K := by
  obtain ⟨⟨et, s, z⟩, h1, h2⟩ := os_inv h
  obtain ⟨hu, hz⟩ : P.underlying t = some (.slice et) ∧ zero? P et = some (s, z.v) := by
    unfold bsS at h1
    split at h1
    · split at h1
      · simp only [Option.some.injEq, Prod.mk.injEq] at h1
        obtain ⟨rfl, rfl⟩ := h1
        exact ⟨‹_›, kzero?_s ‹_›⟩
      · cases h1
    · cases h1
  have h3 : @Bool.rec (fun _ => Prop) (chk (bsB s len) 147 (kparts false (bsP s len) (ps.toList.map fun x => (x.1, kev τ x.2)) (kzarr len z) fun v => nwB (.row et) (.arr len s) v zm nx fun zm nx' => K (.row nx s len) zm nx' [] []))
    (nwB (.row et) (.arr 0 s) (kzarr 0 z) zm nx fun zm nx' => K (.row nx s 0) zm nx' [] []) (nd (Nat.beq len 0) (ps.toList.map fun x => (x.1, kev τ x.2)).isEmpty) := h2
  cases hb : nd (Nat.beq len 0) (ps.toList.map fun x => (x.1, kev τ x.2)).isEmpty with
  | true =>
    rw [hb] at h3
    rw [nd_iff] at hb
    obtain ⟨q1, q2⟩ := hb
    obtain rfl := beqE q1
    have q3 : ps.toList = [] := by simpa using q2
    refine Out.new (show nwB (.row et) (.arr 0 s) (kzarr 0 z) zm nx (fun zm nx' => K (.row nx s 0) zm nx' [] []) from h3) (yBS_s (e := ⟨.row nx s 0, [], [⟨.row et, .arr 0 s, .arr 0 fun _ => z.v⟩], []⟩) ho ?_) (by rw [kzarr_v]; exact EImp.refl _)
    rw [q3]
    show (match P.underlying t with | some (.slice et) => (match zero? P et with | some (s, z) => RS.ok ⟨.row nx s 0, [], [⟨.row et, .arr 0 s, .arr 0 fun _ => z⟩], []⟩ | none => RS.bad) | _ => RS.bad).is _
    rw [hu]; simp only; rw [hz]; rfl
  | false =>
    rw [hb] at h3
    obtain ⟨h4, h5⟩ := chk_inv (show chk (bsB s len) 147 _ from h3)
    obtain ⟨v', h6, h7, h8⟩ := kparts_s (s := .arr len s) (pl := fun i => some (i * s.size, s.size)) (fun i t' hi => by
      unfold bsP at hi
      cases hlt : Nat.blt i len with
      | false => rw [hlt] at hi; cases hi
      | true =>
        rw [hlt] at hi
        have := Option.some.inj hi
        subst this
        exact ⟨i * s.size, by show (if i < len then _ else _) = _; rw [if_pos (nblt.1 hlt)], by simp⟩) _ _ _ h5
    rw [map_ps] at h7 h8
    unfold bsB at h4
    simp only [nd_iff] at h4
    have q1 : len * s.size ≤ 16777216 := Nat.le_of_ble_eq_true h4.1
    have q2 : 0 < len * s.size := nblt.1 h4.2.1
    refine Out.new h6 (yBS_s (e := ⟨.row nx s len, [], [⟨.row et, .arr len s, v'.v⟩], []⟩) ho ?_) (EImp.refl _)
    have hne : yBS P t len (ps.toList.map fun x => (x.1, opv Gl.G (tv' τ) x.2)) nx = yBuildSlice P t len (ps.toList.map fun x => (x.1, opv Gl.G (tv' τ) x.2)) nx := by
      unfold yBS
      split
      · omega
      · rfl
    rw [hne]
    unfold yBuildSlice
    simp only [hu, hz]
    rw [if_pos (by simp only [Bool.and_eq_true, decide_eq_true_eq]; exact ⟨⟨by omega, by omega⟩, h7⟩), bsetX_eq, ← kzarr_v, ← h8]; rfl

/-! ### Parts of values -/
inductive IvS where
  | str
  | arr (n : Nat) (s : Shape)
  | bad
def ivS (P : Program) (t : TypeId) : IvS := match P.underlying t with
  | some .string => .str
  | some (.array n el) => match ldS P el with
    | some s => .arr n s
    | none => .bad
  | _ => .bad
def kIndexV (P : Program) (t : TypeId) (x ix : KV) (zm : KZ) (nx : Nat) (K : KT) : Prop :=
  onInt (fun _ j => @IvS.rec (fun _ => Prop) (onStr (fun n s => cnd (ixB j n) (fI (pkg .u8 s (natI j)) fun r => K (.int .u8 r) zm nx [] [])) (BadN 150) x)
    (fun n s => chk (arN x n) 151 (cnd (ixB j n) (fV (kidx (natI j) x) fun v => chk (kfits v s) 152 (K v zm nx [] [])))) (BadN 153) (ivS P t)) (BadN 154) ix
theorem kIndexV_s {t : TypeId} {x ix : Operand} (ho : o.op = .index t x ix) (h : kIndexV P t (kev τ x) (kev τ ix) zm nx K) : Out P B o τ lo zm nx K := by
  have hx := kev_v τ x
  have hi := kev_v τ ix
  rcases onInt_inv h with ⟨k, j, hj, h1⟩ | ⟨_, h1⟩
  · rw [hj] at hi
    unfold ivS at h1
    split at h1
    · rename_i hu
      rcases onStr_inv (show onStr (fun n s => cnd (ixB j n) (fI (pkg .u8 s (natI j)) fun r => K (.int .u8 r) zm nx [] [])) (BadN 150) (kev τ x) from h1) with ⟨n, s, hs, h2⟩ | ⟨_, h2⟩
      · obtain ⟨h3, h4⟩ := cnd_iff.1 h2
        rw [fI_eq, natI_eq] at h4
        rw [hs] at hx
        have hsz : (bytesOf n s).size = n := by show ((List.range n).map _).length = n; simp
        have hlt : j.toNat < n := by
          unfold ixB at h3
          simp only [Bool.and_eq_true, leI_eq, ltI_eq, decide_eq_true_eq, Int.ofNat_eq_natCast] at h3
          omega
        refine Out.pure h4 (yIndexV_s (e := pureE (byteAt (bytesOf n s) j.toNat)) ho ?_) ?_
        · unfold yIndexV
          rw [← hi, ← hx]
          simp only [v_int, v_str, hu, hsz]
          exact tstE h3
        · refine EImp.val ?_
          have : byteAt (bytesOf n s) j.toNat = .int .u8 (pkg .u8 s j.toNat) := by
            show V.int .u8 ((((List.range n).map fun i => UInt8.ofNat (pkr .u8 s i)).getD j.toNat 0).toNat : Int) = .int .u8 (.ofNat (pkr .u8 s j.toNat))
            rw [List.getD_eq_getElem?_getD, List.getElem?_map, List.getElem?_range hlt, Option.map_some, Option.getD_some, UInt8.toNat_ofNat']
            have := pkr_lt .u8 s j.toNat
            simp only [mdl] at this
            rw [Nat.mod_eq_of_lt (by omega)]; rfl
          rw [this]; exact Imp.refl _
      · exact h2.elim
    · rename_i n el hu
      split at h1
      · rename_i s hl
        obtain ⟨hs, d, hd⟩ := ldS_s hl
        obtain ⟨h2, h3⟩ := chk_inv (show chk (arN (kev τ x) n) 151 _ from h1)
        obtain ⟨h4, h5⟩ := cnd_iff.1 h3
        rw [fV_eq, natI_eq] at h5
        obtain ⟨h6, h7⟩ := chk_inv h5
        obtain ⟨f, hf⟩ := arN_s h2
        have hk : (kidx j.toNat (kev τ x)).v = f j.toNat := by rw [kidx_v, hf]; rfl
        refine Out.pure h7 (yIndexV_s (e := pureE (f j.toNat)) ho ?_) (by rw [hk]; exact EImp.refl _)
        unfold yIndexV
        rw [← hi, ← hx, hf]
        simp only [v_int, hu, hs, hd, if_true]
        have h8 := (kfits_s h6).1
        rw [hk] at h8
        exact tstE (by rw [h4, h8]; rfl)
      · exact (show BadN 153 from h1).elim
    · exact (show BadN 153 from h1).elim
  · exact h1.elim
def fvS (P : Program) (t : TypeId) (k : Nat) : Option Shape := match P.underlying t, tshape P t with
  | some (.struct fs), some s => match fs[k]?, s.fld k with
    | some fd, some (d, s') => match tshape P fd.type, P.underlying fd.type with
      | some s2, some _ => if d = fd.offset ∧ s2.beq s' = true then some s else none
      | _, _ => none
    | _, _ => none
  | _, _ => none
def kFieldV (P : Program) (t : TypeId) (x : KV) (k : Nat) (zm : KZ) (nx : Nat) (K : KT) : Prop := os 155 (fun s => chk (nd (isAggK x) (kfits x s)) 156 (fV (kfld k x) fun v => K v zm nx [] [])) (fvS P t k)
theorem kFieldV_s {t : TypeId} {x : Operand} {k : Nat} (ho : o.op = .field t x k) (h : kFieldV P t (kev τ x) k zm nx K) : Out P B o τ lo zm nx K := by
  have hx := kev_v τ x
  obtain ⟨s, h1, h2⟩ := os_inv h
  obtain ⟨h3, h4⟩ := chk_inv h2
  rw [fV_eq] at h4
  rw [nd_iff] at h3
  refine Out.pure h4 (yFieldV_s (e := pureE ((kev τ x).v.fld k)) ho ?_) (by rw [kfld_v]; exact EImp.refl _)
  unfold fvS at h1
  split at h1
  · rename_i fs s' hu hs
    split at h1
    · rename_i fd d s2 hf hd
      split at h1
      · rename_i s3 _ hs3 hu3
        split at h1
        · rename_i hc
          cases h1
          unfold yFieldV
          rw [← hx]
          simp only [hu, hs, hf, hd, hs3, hu3]
          rw [if_pos ⟨isAggK_s h3.1, (kfits_s h3.2).1, hc.1, hc.2⟩]; rfl
        · cases h1
      · cases h1
    · cases h1
  · cases h1

/-! ### Conversions -/
inductive CvS where
  | num (k : IntKind)
  | str
  | toB
  | toS
  | mk
  | bad
def cvS (P : Program) (src dst : TypeId) : CvS := match P.underlying dst, P.underlying src with
  | some (.int k), some _ => .num k
  | some .string, some .string => .str
  | some (.slice e), some .string => match P.underlying e with
    | some (.int .u8) => .toB
    | _ => .bad
  | some .string, some (.slice e) => match P.underlying e with
    | some (.int .u8) => .toS
    | _ => .bad
  | some (.slice e), some (.slice _) => if dst = src then match P.underlying e with
    | some (.int .u8) => .mk
    | _ => .bad
    else .bad
  | _, _ => .bad
def kMk (lo : Nat) (zm : KZ) (nx : Nat) (K : KT) (id : Nat) (e : Shape) (len : Nat) : Prop :=
  oB zm id fun kd sh v => @Kind.rec (fun _ => Prop) (fun _ => BadN 214) (fun _ => chk (nd (isScB e) (nd (Nat.ble lo id) (Nat.blt 0 len))) 215 (onPk (fun k n y => chk (ikEq k .u8) 216 (upB id .dead sh .unk zm fun zm => K (.ro true false .sc 0 len (.pk .u8 n y)) zm nx [id] [])) (BadN 217) v)) (BadN 218) (fun _ _ _ _ => BadN 218) (BadN 218) kd
def kToS (zm : KZ) (nx : Nat) (K : KT) (e : Shape) (off len : Nat) (c : KV) (rd : List Nat) : Prop :=
  chk (isScB e) 157 (@Bool.rec (fun _ => Prop) (onPk (fun k _ x => chk (ikEq k .u8) 158 (fN (pkx .u8 x off len) fun y => K (.str len y) zm nx [] rd)) (BadN 159) c) (K (.str 0 0) zm nx [] rd) (Nat.beq len 0))
def kConv (lo : Nat) (P : Program) (src dst : TypeId) (x : KV) (zm : KZ) (nx : Nat) (K : KT) : Prop :=
  @CvS.rec (fun _ => Prop) (fun k => onInt (fun _ a => @Bool.rec (fun _ => Prop) (wrpP k a fun r => K (.int k r) zm nx [] []) (fI (wrpI k a) fun r => K (.int k r) zm nx [] []) Gl.cl) (BadN 160) x) (onStr (fun _ _ => K x zm nx [] []) (BadN 161) x)
    (onStr (fun n s => K (.ro true false .sc 0 n (.pk .u8 n s)) zm nx [] []) (BadN 162) x) (kSrc x zm (kToS zm nx K)) (onRow (kMk lo zm nx K) (BadN 219) x) (BadN 163) (cvS P src dst)
omit [KGl] in
theorem u8s_of {f : Nat → V} {g : Nat → Int} : ∀ (c i : Nat), (∀ j, j < c → f (i + j) = .int .u8 (g (i + j))) → u8s f c i = some ((List.range c).map fun j => g (i + j))
  | 0, i, h => rfl
  | c + 1, i, h => by
    have h0 := h 0 (by omega)
    rw [Nat.add_zero] at h0
    have h1 := u8s_of c (i + 1) fun j hj => by rw [show i + 1 + j = i + (j + 1) by omega]; exact h (j + 1) (by omega)
    simp only [u8s, h0, h1]
    rw [List.range_succ_eq_map, List.map_cons, List.map_map]
    simp only [Nat.add_zero]
    congr 2
    refine List.map_congr_left fun j _ => ?_
    show g (i + 1 + j) = g (i + (j + 1))
    congr 1; omega
theorem kConv_s {src dst : TypeId} {x : Operand} (ho : o.op = .convert src dst x) (h : kConv lo P src dst (kev τ x) zm nx K) : Out P B o τ lo zm nx K := by
  have hx := kev_v τ x
  unfold kConv cvS at h
  split at h
  · rename_i k d hd hs
    rcases onInt_inv (show onInt (fun _ a => @Bool.rec (fun _ => Prop) (wrpP k a fun r => K (.int k r) zm nx [] []) (fI (wrpI k a) fun r => K (.int k r) zm nx [] []) Gl.cl) (BadN 160) (kev τ x) from h) with ⟨k', a, ha, h1⟩ | ⟨_, h1⟩
    · have h1 : K (.int k (wrpI k a)) zm nx [] [] := by
        cases hc : (Gl.cl : Bool) with
        | false => rw [hc] at h1; exact wrpP_s (K := fun r => K (.int k r) zm nx [] []) h1
        | true => rw [hc] at h1; have h1 : fI (wrpI k a) fun r => K (.int k r) zm nx [] [] := h1; rwa [fI_eq] at h1
      rw [ha] at hx
      refine Out.pure h1 (yConvA_s (e := pureE (.int k (wrpI k a))) ho ?_) (EImp.refl _)
      rw [← hx]
      show (yConv P src dst (.int k' a)).is _
      unfold yConv
      rw [hd, hs]; rfl
    · exact h1.elim
  · rename_i hd hs
    rcases onStr_inv (show onStr (fun _ _ => K (kev τ x) zm nx [] []) (BadN 161) (kev τ x) from h) with ⟨n, s, ha, h1⟩ | ⟨_, h1⟩
    · refine Out.pure h1 (yConvA_s (e := pureE (kev τ x).v) ho ?_) (EImp.refl _)
      rw [← hx, ha]
      show (yConvS P src dst (.str (bytesOf n s)) (am zm)).is _
      unfold yConvS
      rw [hd, hs]; rfl
    · exact h1.elim
  · rename_i e hd hs
    split at h
    · rename_i he
      rcases onStr_inv (show onStr (fun n s => K (.ro true false .sc 0 n (.pk .u8 n s)) zm nx [] []) (BadN 162) (kev τ x) from h) with ⟨n, s, ha, h1⟩ | ⟨_, h1⟩
      · rw [ha] at hx
        have hsz : (bytesOf n s).size = n := by show ((List.range n).map _).length = n; simp
        refine Out.pure h1 (yConvA_s (e := pureE (.ro true false .sc (bytesOf n s).size (byteAt (bytesOf n s)))) ho ?_) ?_
        · rw [← hx]
          show (yConvS P src dst (.str (bytesOf n s)) (am zm)).is _
          unfold yConvS
          rw [hd, hs]
          simp only [he]; rfl
        · refine EImp.val ?_
          rw [hsz, v_ro]
          refine Imp.roE fun i hi => ?_
          show V.int .u8 ((((List.range n).map fun i => UInt8.ofNat (pkr .u8 s i)).getD i 0).toNat : Int) = .int .u8 (.ofNat (pkr .u8 s (0 + i)))
          rw [List.getD_eq_getElem?_getD, List.getElem?_map, List.getElem?_range hi, Option.map_some, Option.getD_some, UInt8.toNat_ofNat', Nat.zero_add]
          have := pkr_lt .u8 s i
          simp only [mdl] at this
          rw [Nat.mod_eq_of_lt (by omega)]; rfl
      · exact h1.elim
    · exact (show BadN 163 from h).elim
  · rename_i e hd hs
    split at h
    · rename_i he
      obtain ⟨e', off, len, c, rd, f, h1, h2, h3⟩ := kSrc_s (show kSrc (kev τ x) zm (kToS zm nx K) from h)
      obtain ⟨h4, h5⟩ := chk_inv h1
      obtain rfl := isScB_s h4
      have hnint : isIntV (kev τ x).v = false := by
        unfold srcV at h2
        split at h2
        · rename_i hv; rw [hv]; rfl
        · rename_i hv; rw [hv]; rfl
        · rename_i hv; rw [hv]; rfl
        · cases h2
      have fin : ∀ (y : Nat) (g : Nat → Int), K (.str len y) zm nx [] rd → (∀ j, j < len → f j = .int .u8 (g j)) → (∀ j, j < len → g j = .ofNat (pkr .u8 y j)) → Out P B o τ lo zm nx K := by
        intro y g hk hg hgy
        have hu := u8s_of (f := f) (g := g) len 0 (fun j hj => by rw [Nat.zero_add]; exact hg j hj)
        refine Out.pure hk (yConvA_s (e := ⟨.str (strOfNums ((List.range len).map fun j => g (0 + j))), [], [], rd⟩) ho ?_) ?_
        · unfold yConvA
          rw [← hx, hnint]
          show (yConvS P src dst (kev τ x).v (am zm)).is _
          unfold yConvS
          rw [hs, hd]
          simp only [he, h2, hu]; rfl
        · refine EImp.val ?_
          have : strOfNums ((List.range len).map fun j => g (0 + j)) = bytesOf len y := by
            unfold strOfNums bytesOf
            congr 2
            rw [List.map_map]
            refine List.map_congr_left fun j hj => ?_
            rw [List.mem_range] at hj
            show UInt8.ofNat (g (0 + j)).toNat = _
            rw [Nat.zero_add, hgy j hj]; rfl
          rw [this]; exact Imp.refl _
      cases hl : Nat.beq len 0 with
      | true =>
        obtain rfl := beqE hl
        exact fin 0 (fun _ => 0) h5 (fun j hj => by omega) (fun j hj => by omega)
      | false =>
        rw [hl] at h5
        rcases onPk_inv (show onPk (fun k _ x => chk (ikEq k .u8) 158 (fN (pkx .u8 x off len) fun y => K (.str len y) zm nx [] rd)) (BadN 159) c from h5) with ⟨k, n, y, rfl, h6⟩ | ⟨_, h6⟩
        · obtain ⟨h7, h8⟩ := chk_inv h6
          obtain rfl := ikEq_eq h7
          rw [fN_eq] at h8
          refine fin _ (fun j => .ofNat (pkr .u8 y (off + j))) h8 (fun j _ => ?_) fun j hj => by rw [pkr_pkx hj]
          rw [h3 j, kidx_v]; rfl
        · exact h6.elim
    · exact (show BadN 163 from h).elim
  · rename_i e e2 hd hs
    split at h
    · rename_i heq
      subst heq
      split at h
      · rename_i he
        rcases onRow_inv (show onRow (kMk lo zm nx K) (BadN 219) (kev τ x) from h) with ⟨id, e', len, ha, h1⟩ | ⟨_, h1⟩
        · obtain ⟨kd, sh, v, hb, h2⟩ := oB_inv h1
          rw [ha] at hx
          cases kd with
          | box => exact (show BadN 214 from h2).elim
          | dead => exact (show BadN 218 from h2).elim
          | lp k ps x y => exact (show BadN 218 from h2).elim
          | mp => exact (show BadN 218 from h2).elim
          | row et =>
            obtain ⟨h3, h4⟩ := chk_inv h2
            simp only [nd_iff] at h3
            obtain ⟨q1, q2, q3⟩ := h3
            obtain rfl := isScB_s q1
            rcases onPk_inv h4 with ⟨k, n, y, rfl, h5⟩ | ⟨_, h5⟩
            · obtain ⟨h6, h7⟩ := chk_inv h5
              obtain rfl := ikEq_eq h6
              have hu := u8s_of (f := fun i => V.int .u8 (pkg .u8 y i)) (g := fun i => pkg .u8 y i) len 0 (fun j hj => rfl)
              refine Out.up h7 (Nat.le_of_ble_eq_true q2) (yConvA_s (e := ⟨.ro true false .sc len fun i => V.int .u8 (dec .u8 (pkr .u8 y i)), [(id, ⟨.dead, sh, .unk⟩)], [], []⟩) ho ?_) ?_
              · rw [← hx]
                show (yConvS P _ _ (.row id .sc len) (am zm)).is _
                have he2 : e2 = e := by rw [hd] at hs; cases hs; rfl
                subst he2
                unfold yConvS
                rw [hd]
                simp only [if_true, he, am_some hb, KBlk.b, v_pk]
                rw [hu]
                simp only [q3, if_true]
                rfl
              · refine EImp.up1 ?_ (BImp.refl _)
                rw [v_ro]
                refine Imp.roE fun i hi => ?_
                show _ = V.int .u8 (dec .u8 (pkr .u8 y (0 + i)))
                rw [Nat.zero_add]
            · exact h5.elim
        · exact h1.elim
      · exact (show BadN 163 from h).elim
    · exact (show BadN 163 from h).elim
  · exact (show BadN 163 from h).elim
/-- An array's pointer made of a slice. -/
def arS (P : Program) (t : TypeId) : Option Nat := match P.underlying t with
  | some (.array n _) => some n
  | _ => none
def kArrC (n off : Nat) (c : KV) (K : KV → Prop) : Prop := onPk (fun k _ x => fN (pkx k x off n) fun x => K (.pk k n x)) (onAr (fun _ d t => chk (Nat.beq off 0) 164 (K (.ar n d t))) (BadN 165) c) c
def kArr (P : Program) (t : TypeId) (x : KV) (zm : KZ) (nx : Nat) (K : KT) : Prop := os 166 (fun n => onRo (fun u _ e off len c => cnd (Nat.blt 0 n && Nat.ble n len) (kArrC n off c fun c => K (.ref u (.arr n e) c) zm nx [] [])) (onSl (fun id p e off len _ => cnd (Nat.blt 0 n && Nat.ble n len) (snocK p (.sub off n) fun p => K (.ptr id p (.arr n e)) zm nx [] [])) (BadN 167) x) x) (arS P t)
theorem kArr_s {t : TypeId} {x : Operand} (ho : o.op = .sliceToArrayPointer t x) (h : kArr P t (kev τ x) zm nx K) : Out P B o τ lo zm nx K := by
  have hx := kev_v τ x
  obtain ⟨n, h1, h2⟩ := os_inv h
  obtain ⟨el, hu⟩ : ∃ el, P.underlying t = some (.array n el) := by
    unfold arS at h1
    split at h1
    · cases h1; exact ⟨_, ‹_›⟩
    · cases h1
  rcases onRo_inv h2 with ⟨u, cl, e, off, len, c, hp, h3⟩ | ⟨_, h3⟩
  · obtain ⟨h4, h5⟩ := cnd_iff.1 h3
    rw [hp] at hx
    have fin : ∀ c' : KV, K (.ref u (.arr n e) c') zm nx [] [] → Imp (.arr n fun i => c.v.step (.idx (off + i))) c'.v → Out P B o τ lo zm nx K := fun c' hk hi => by
      refine Out.pure hk (yArr_s (e := pureE (.ref u (.arr n e) (.arr n fun i => c.v.step (.idx (off + i))))) ho ?_) (EImp.val (Imp.refE hi))
      unfold yArr
      rw [hu, ← hx]
      exact tstE h4
    rcases onPk_inv h5 with ⟨k, m, y, rfl, h6⟩ | ⟨_, h6⟩
    · rw [fN_eq] at h6
      refine fin _ h6 (Imp.arrE fun i hi => ?_)
      show V.int k (dec k (pkr k y (off + i))) = V.int k (dec k (pkr k _ i))
      rw [pkr_pkx hi]
    · rcases onAr_inv h6 with ⟨m, d, t', rfl, h7⟩ | ⟨_, h7⟩
      · obtain ⟨h8, h9⟩ := chk_inv h7
        obtain rfl := beqE h8
        exact fin _ h9 (Imp.arrE fun i hi => by rw [Nat.zero_add]; rfl)
      · exact h7.elim
  rcases onSl_inv h3 with ⟨id, p, e, off, len, cap, hp, h4⟩ | ⟨_, h3⟩
  · obtain ⟨h5, h6⟩ := cnd_iff.1 h4
    rw [snocK_eq] at h6
    rw [hp] at hx
    rw [Bool.and_eq_true, Nat.blt_eq, Nat.ble_eq] at h5
    exact Out.pure h6 ⟨sem_arr_sl (ρ := opv Gl.G (tv' τ)) ho hx.symm hu h5.1 h5.2, UpIn.nil⟩ (EImp.refl _)
  · exact h3.elim
end
end
end Go.K
