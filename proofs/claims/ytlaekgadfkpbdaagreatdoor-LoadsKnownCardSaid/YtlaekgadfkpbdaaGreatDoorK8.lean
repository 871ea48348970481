/- Single operations: what is built, converted; all of them. No condition. What is shown of calls. No condition. -/
import Derived.Test.YtlaekgadfkpbdaaGreatDoorK6
set_option linter.unusedVariables false
set_option linter.unusedSimpArgs false
namespace Go.K
open Go.Ab Go.RowKit Go.Y
noncomputable section
variable [KGl]
section
variable {P : Program} {B : Nat} {o : Oper} {τ : Nat → KV} {lo : Nat} {zm : KZ} {nx : Nat} {K : KT}

/-! ### Slices that are made -/
def mkS (P : Program) (t : TypeId) : Option (TypeId × (Shape × KV)) := match P.underlying t with
  | some (.slice et) => match kzero? P et, P.info? et with
    | some sz, some i => if i.bytes ≤ 1048576 then some (et, sz) else none
    | _, _ => none
  | _ => none
theorem mkS_s {t : TypeId} {et : TypeId} {s : Shape} {z : KV} (h : mkS P t = some (et, s, z)) : P.underlying t = some (.slice et) ∧ zero? P et = some (s, z.v) ∧ ∃ i, P.info? et = some i ∧ i.bytes ≤ 1048576 := by
  unfold mkS at h
  split at h
  · rename_i e hu
    split at h
    · rename_i sz i hz hi
      split at h
      · rename_i hc
        simp only [Option.some.injEq, Prod.mk.injEq] at h
        obtain ⟨rfl, rfl⟩ := h
        exact ⟨hu, kzero?_s hz, i, hi, hc⟩
      · cases h
    · cases h
  · cases h
def kMkT (et : TypeId) (s : Shape) (z : KV) (same : Bool) (a b : Nat) (zm : KZ) (nx : Nat) (K : KT) : Prop :=
  @Bool.rec (fun _ => Prop) (nwB (.row et) (.arr a s) (kzarr a z) zm nx fun zm nx' => K (.row nx s a) zm nx' [] []) (nwB .box (.arr b s) (kzarr b z) zm nx fun zm nx' => K (.sl nx [] s 0 a (some b)) zm nx' [] []) same
def kMake (P : Program) (t : TypeId) (same : Bool) (l c : KV) (zm : KZ) (nx : Nat) (K : KT) : Prop :=
  os 140 (pr fun et sz => pr (fun s z => onInt (fun _ a => onInt (fun _ b => cnd (mkB a b) (fN (natI a) fun a => fN (natI b) fun b => kMkT et s z same a b zm nx K)) (BadN 141) c) (BadN 142) l) sz) (mkS P t)
theorem kMake_s {t : TypeId} {l c : Operand} (ho : o.op = .makeSlice t l c) (h : kMake P t (opSame l c) (kev τ l) (kev τ c) zm nx K) : Out P B o τ lo zm nx K := by
  have hl := kev_v τ l
  have hc := kev_v τ c
  obtain ⟨⟨et, s, z⟩, h1, h2⟩ := os_inv h
  obtain ⟨hu, hz, i, hi, hb⟩ := mkS_s h1
  rcases onInt_inv (show onInt _ (BadN 142) (kev τ l) from h2) with ⟨_, a, ha, h3⟩ | ⟨_, h3⟩
  · rcases onInt_inv h3 with ⟨_, b, hb', h4⟩ | ⟨_, h4⟩
    · obtain ⟨h5, h6⟩ := cnd_iff.1 h4
      rw [fN_eq, fN_eq, natI_eq, natI_eq] at h6
      rw [ha] at hl; rw [hb'] at hc
      have hY : ∀ e, (RS.tst (mkB a b) e).is e := fun e => tstE h5
      cases hs : opSame l c with
      | true =>
        rw [hs] at h6
        refine Out.new (show nwB .box (.arr b.toNat s) (kzarr b.toNat z) zm nx (fun zm nx' => K (.sl nx [] s 0 a.toNat (some b.toNat)) zm nx' [] []) from h6)
          (yMk_s (e := ⟨.sl nx [] s 0 a.toNat (some b.toNat), [], [⟨.box, .arr b.toNat s, .arr b.toNat fun _ => z.v⟩], []⟩) ho ?_) (by rw [kzarr_v]; exact EImp.refl _)
        unfold yMk yMake
        simp only [hu, hz, hi, ← hl, ← hc, v_int, hs]
        rw [if_pos hb]
        exact hY _
      | false =>
        rw [hs] at h6
        refine Out.new (show nwB (.row et) (.arr a.toNat s) (kzarr a.toNat z) zm nx (fun zm nx' => K (.row nx s a.toNat) zm nx' [] []) from h6)
          (yMk_s (e := ⟨.row nx s a.toNat, [], [⟨.row et, .arr a.toNat s, .arr a.toNat fun _ => z.v⟩], []⟩) ho ?_) (by rw [kzarr_v]; exact EImp.refl _)
        unfold yMk yMake
        simp only [hu, hz, hi, ← hl, ← hc, v_int, hs]
        rw [if_pos hb]
        exact hY _
    · exact h4.elim
  · exact h3.elim

/-! ### What is built -/
/-- Parts set, one after the other. -/
def kparts (st : Bool) (sh : Nat → Option Shape) (l : List (Nat × KV)) : KV → (KV → Prop) → Prop := @List.rec (Nat × KV) (fun _ => KV → (KV → Prop) → Prop) (fun v K => K v)
  (fun x _ ih v K => os 143 (fun s => chk (kfits x.2 s) 144 (ksetP x.2 [bstep st x.1] v fun v => ih v K)) (sh x.1)) l
theorem kparts_s {st : Bool} {sh : Nat → Option Shape} {s : Shape} {pl : Nat → Option (Nat × Nat)} (hsh : ∀ i t, sh i = some t → ∃ d, s.step (bstep st i) = some (d, t) ∧ (pl i == some (d, t.size)) = true) :
    ∀ (l : List (Nat × KV)) (v : KV) (K : KV → Prop), kparts st sh l v K → ∃ v', K v' ∧ bok s st pl (l.map fun x => (x.1, x.2.v)) = true ∧ v'.v = bset st v.v (l.map fun x => (x.1, x.2.v))
  | [], v, K, h => ⟨v, h, rfl, rfl⟩
  | x :: l, v, K, h => by
    obtain ⟨t, h1, h2⟩ := os_inv (show os 143 (fun s => chk (kfits x.2 s) 144 (ksetP x.2 [bstep st x.1] v fun v => kparts st sh l v K)) (sh x.1) from h)
    obtain ⟨h3, h4⟩ := chk_inv h2
    obtain ⟨h5, h6⟩ := kfits_s h3
    obtain ⟨v1, h7, h8⟩ := ksetP_s _ _ _ _ h4
    obtain ⟨v', h9, h10, h11⟩ := kparts_s hsh l v1 K h7
    obtain ⟨d, h12, h13⟩ := hsh _ _ h1
    refine ⟨v', h9, ?_, ?_⟩
    · simp only [List.map_cons, bok, h12, h13, h5, h6, h10, Bool.and_self]
    · rw [h11, h8]; rfl
def bdS (P : Program) (t : TypeId) : Option ((Shape × KV) × Bool) := match kzero? P t, places P t with
  | some sz, some (st, _) => some (sz, st)
  | _, _ => none
/-- The shape of a part. -/
def bpS (P : Program) (t : TypeId) (i : Nat) : Option Shape := match kzero? P t, places P t with
  | some (s, _), some (st, pl) => match s.step (bstep st i) with
    | some (d, t) => if (pl i == some (d, t.size)) = true then some t else none
    | none => none
  | _, _ => none
def kBuild (P : Program) (t : TypeId) (ps : List (Nat × KV)) (zm : KZ) (nx : Nat) (K : KT) : Prop :=
  os 145 (pr fun sz st => pr (fun _ z => kparts st (bpS P t) ps z fun v => fV v fun v => K v zm nx [] []) sz) (bdS P t)
theorem map_ps {ps : List (Nat × Operand)} : (ps.map fun x => (x.1, kev τ x.2)).map (fun x => (x.1, x.2.v)) = ps.map fun x => (x.1, opv Gl.G (tv' τ) x.2) := by
  rw [List.map_map]
  exact List.map_congr_left fun x _ => by show (x.1, (kev τ x.2).v) = _; rw [kev_v]
theorem kBuild_s {t : TypeId} {ps : Array (Nat × Operand)} (ho : o.op = .build t ps) (h : kBuild P t (ps.toList.map fun x => (x.1, kev τ x.2)) zm nx K) : Out P B o τ lo zm nx K := by
  obtain ⟨⟨⟨s, z⟩, st⟩, h1, h2⟩ := os_inv h
  have h3 : kparts st (bpS P t) (ps.toList.map fun x => (x.1, kev τ x.2)) z (fun v => fV v fun v => K v zm nx [] []) := h2
  unfold bdS at h1
  split at h1
  · rename_i sz st' pl hz hp
    simp only [Option.some.injEq, Prod.mk.injEq] at h1
    obtain ⟨rfl, rfl⟩ := h1
    obtain ⟨v', h4, h5, h6⟩ := kparts_s (s := s) (pl := pl) (fun i t' hi => by
      unfold bpS at hi
      rw [hz, hp] at hi
      simp only at hi
      split at hi
      · rename_i d t2 hd
        split at hi
        · rename_i hc; cases hi; exact ⟨d, hd, hc⟩
        · cases hi
      · cases hi) _ _ _ h3
    rw [fV_eq] at h4
    rw [map_ps] at h5 h6
    refine Out.pure h4 (yBuild_s (e := pureE v'.v) ho ?_) (EImp.refl _)
    unfold yBuild
    rw [kzero?_s hz, hp]
    simp only
    rw [if_pos h5, bsetX_eq, h6]; rfl
  · cases h1
def bsS (P : Program) (t : TypeId) : Option (TypeId × (Shape × KV)) := match P.underlying t with
  | some (.slice et) => match kzero? P et with
    | some sz => some (et, sz)
    | none => none
  | _ => none
def bsB (s : Shape) (len : Nat) : Bool := nd (Nat.ble (Nat.mul len s.size) 16777216) (nd (Nat.blt 0 (Nat.mul len s.size)) true)
def bsP (s : Shape) (len i : Nat) : Option Shape := @Bool.rec (fun _ => Option Shape) none (some s) (Nat.blt i len)
def kBS (P : Program) (t : TypeId) (len : Nat) (ps : List (Nat × KV)) (zm : KZ) (nx : Nat) (K : KT) : Prop :=
  os 146 (pr fun et sz => pr (fun s z => @Bool.rec (fun _ => Prop) (chk (bsB s len) 147 (kparts false (bsP s len) ps (kzarr len z) fun v => nwB (.row et) (.arr len s) v zm nx fun zm nx' => K (.row nx s len) zm nx' [] []))
    (nwB (.row et) (.arr 0 s) (kzarr 0 z) zm nx fun zm nx' => K (.row nx s 0) zm nx' [] []) (nd (Nat.beq len 0) (ps.isEmpty))) sz) (bsS P t)
theorem kBS_s {t : TypeId} {len : Nat} {ps : Array (Nat × Operand)} (ho : o.op = .buildSlice t len ps) (h : kBS P t len (ps.toList.map fun x => (x.1, kev τ x.2)) zm nx K) : Out P B o τ lo zm nx K := by
  obtain ⟨⟨et, s, z⟩, h1, h2⟩ := os_inv h
  obtain ⟨hu, hz⟩ : P.underlying t = some (.slice et) ∧ zero? P et = some (s, z.v) := by
    unfold bsS at h1
    split at h1
    · split at h1
      · simp only [Option.some.injEq, Prod.mk.injEq] at h1
        obtain ⟨rfl, rfl⟩ := h1
        exact ⟨‹_›, kzero?_s ‹_›⟩
      · cases h1
    · cases h1
  have h3 : @Bool.rec (fun _ => Prop) (chk (bsB s len) 147 (kparts false (bsP s len) (ps.toList.map fun x => (x.1, kev τ x.2)) (kzarr len z) fun v => nwB (.row et) (.arr len s) v zm nx fun zm nx' => K (.row nx s len) zm nx' [] []))
    (nwB (.row et) (.arr 0 s) (kzarr 0 z) zm nx fun zm nx' => K (.row nx s 0) zm nx' [] []) (nd (Nat.beq len 0) (ps.toList.map fun x => (x.1, kev τ x.2)).isEmpty) := h2
  cases hb : nd (Nat.beq len 0) (ps.toList.map fun x => (x.1, kev τ x.2)).isEmpty with
  | true =>
    rw [hb] at h3
    rw [nd_iff] at hb
    obtain ⟨q1, q2⟩ := hb
    obtain rfl := beqE q1
    have q3 : ps.toList = [] := by simpa using q2
    refine Out.new (show nwB (.row et) (.arr 0 s) (kzarr 0 z) zm nx (fun zm nx' => K (.row nx s 0) zm nx' [] []) from h3) (yBS_s (e := ⟨.row nx s 0, [], [⟨.row et, .arr 0 s, .arr 0 fun _ => z.v⟩], []⟩) ho ?_) (by rw [kzarr_v]; exact EImp.refl _)
    rw [q3]
    show (match P.underlying t with | some (.slice et) => (match zero? P et with | some (s, z) => RS.ok ⟨.row nx s 0, [], [⟨.row et, .arr 0 s, .arr 0 fun _ => z⟩], []⟩ | none => RS.bad) | _ => RS.bad).is _
    rw [hu]; simp only; rw [hz]; rfl
  | false =>
    rw [hb] at h3
    obtain ⟨h4, h5⟩ := chk_inv (show chk (bsB s len) 147 _ from h3)
    obtain ⟨v', h6, h7, h8⟩ := kparts_s (s := .arr len s) (pl := fun i => some (i * s.size, s.size)) (fun i t' hi => by
      unfold bsP at hi
      cases hlt : Nat.blt i len with
      | false => rw [hlt] at hi; cases hi
      | true =>
        rw [hlt] at hi
        have := Option.some.inj hi
        subst this
        exact ⟨i * s.size, by show (if i < len then _ else _) = _; rw [if_pos (nblt.1 hlt)], by simp⟩) _ _ _ h5
    rw [map_ps] at h7 h8
    unfold bsB at h4
    simp only [nd_iff] at h4
    have q1 : len * s.size ≤ 16777216 := Nat.le_of_ble_eq_true h4.1
    have q2 : 0 < len * s.size := nblt.1 h4.2.1
    refine Out.new h6 (yBS_s (e := ⟨.row nx s len, [], [⟨.row et, .arr len s, v'.v⟩], []⟩) ho ?_) (EImp.refl _)
    have hne : yBS P t len (ps.toList.map fun x => (x.1, opv Gl.G (tv' τ) x.2)) nx = yBuildSlice P t len (ps.toList.map fun x => (x.1, opv Gl.G (tv' τ) x.2)) nx := by
      unfold yBS
      split
      · omega
      · rfl
    rw [hne]
    unfold yBuildSlice
    simp only [hu, hz]
    rw [if_pos (by simp only [Bool.and_eq_true, decide_eq_true_eq]; exact ⟨⟨by omega, by omega⟩, h7⟩), bsetX_eq, ← kzarr_v, ← h8]; rfl

/-! ### Parts of values -/
inductive IvS where
  | str
  | arr (n : Nat) (s : Shape)
  | bad
def ivS (P : Program) (t : TypeId) : IvS := match P.underlying t with
  | some .string => .str
  | some (.array n el) => match ldS P el with
    | some s => .arr n s
    | none => .bad
  | _ => .bad
def kIndexV (P : Program) (t : TypeId) (x ix : KV) (zm : KZ) (nx : Nat) (K : KT) : Prop :=
  onInt (fun _ j => @IvS.rec (fun _ => Prop) (onStr (fun n s => cnd (ixB j n) (fI (pkg .u8 s (natI j)) fun r => K (.int .u8 r) zm nx [] [])) (BadN 150) x)
    (fun n s => chk (arN x n) 151 (cnd (ixB j n) (fV (kidx (natI j) x) fun v => chk (kfits v s) 152 (K v zm nx [] [])))) (BadN 153) (ivS P t)) (BadN 154) ix
theorem kIndexV_s {t : TypeId} {x ix : Operand} (ho : o.op = .index t x ix) (h : kIndexV P t (kev τ x) (kev τ ix) zm nx K) : Out P B o τ lo zm nx K := by
  have hx := kev_v τ x
  have hi := kev_v τ ix
  rcases onInt_inv h with ⟨k, j, hj, h1⟩ | ⟨_, h1⟩
  · rw [hj] at hi
    unfold ivS at h1
    split at h1
    · rename_i hu
      rcases onStr_inv (show onStr (fun n s => cnd (ixB j n) (fI (pkg .u8 s (natI j)) fun r => K (.int .u8 r) zm nx [] [])) (BadN 150) (kev τ x) from h1) with ⟨n, s, hs, h2⟩ | ⟨_, h2⟩
      · obtain ⟨h3, h4⟩ := cnd_iff.1 h2
        rw [fI_eq, natI_eq] at h4
        rw [hs] at hx
        have hsz : (bytesOf n s).size = n := by show ((List.range n).map _).length = n; simp
        have hlt : j.toNat < n := by
          unfold ixB at h3
          simp only [Bool.and_eq_true, leI_eq, ltI_eq, decide_eq_true_eq, Int.ofNat_eq_natCast] at h3
          omega
        refine Out.pure h4 (yIndexV_s (e := pureE (byteAt (bytesOf n s) j.toNat)) ho ?_) ?_
        · unfold yIndexV
          rw [← hi, ← hx]
          simp only [v_int, v_str, hu, hsz]
          exact tstE h3
        · refine EImp.val ?_
          have : byteAt (bytesOf n s) j.toNat = .int .u8 (pkg .u8 s j.toNat) := by
            show V.int .u8 ((((List.range n).map fun i => UInt8.ofNat (pkr .u8 s i)).getD j.toNat 0).toNat : Int) = .int .u8 (.ofNat (pkr .u8 s j.toNat))
            rw [List.getD_eq_getElem?_getD, List.getElem?_map, List.getElem?_range hlt, Option.map_some, Option.getD_some, UInt8.toNat_ofNat']
            have := pkr_lt .u8 s j.toNat
            simp only [mdl] at this
            rw [Nat.mod_eq_of_lt (by omega)]; rfl
          rw [this]; exact Imp.refl _
      · exact h2.elim
    · rename_i n el hu
      split at h1
      · rename_i s hl
        obtain ⟨hs, d, hd⟩ := ldS_s hl
        obtain ⟨h2, h3⟩ := chk_inv (show chk (arN (kev τ x) n) 151 _ from h1)
        obtain ⟨h4, h5⟩ := cnd_iff.1 h3
        rw [fV_eq, natI_eq] at h5
        obtain ⟨h6, h7⟩ := chk_inv h5
        obtain ⟨f, hf⟩ := arN_s h2
        have hk : (kidx j.toNat (kev τ x)).v = f j.toNat := by rw [kidx_v, hf]; rfl
        refine Out.pure h7 (yIndexV_s (e := pureE (f j.toNat)) ho ?_) (by rw [hk]; exact EImp.refl _)
        unfold yIndexV
        rw [← hi, ← hx, hf]
        simp only [v_int, hu, hs, hd, if_true]
        have h8 := (kfits_s h6).1
        rw [hk] at h8
        exact tstE (by rw [h4, h8]; rfl)
      · exact (show BadN 153 from h1).elim
    · exact (show BadN 153 from h1).elim
  · exact h1.elim
def fvS (P : Program) (t : TypeId) (k : Nat) : Option Shape := match P.underlying t, tshape P t with
  | some (.struct fs), some s => match fs[k]?, s.fld k with
    | some fd, some (d, s') => match tshape P fd.type, P.underlying fd.type with
      | some s2, some _ => if d = fd.offset ∧ s2.beq s' = true then some s else none
      | _, _ => none
    | _, _ => none
  | _, _ => none
def kFieldV (P : Program) (t : TypeId) (x : KV) (k : Nat) (zm : KZ) (nx : Nat) (K : KT) : Prop := os 155 (fun s => chk (nd (isAggK x) (kfits x s)) 156 (fV (kfld k x) fun v => K v zm nx [] [])) (fvS P t k)
theorem kFieldV_s {t : TypeId} {x : Operand} {k : Nat} (ho : o.op = .field t x k) (h : kFieldV P t (kev τ x) k zm nx K) : Out P B o τ lo zm nx K := by
  have hx := kev_v τ x
  obtain ⟨s, h1, h2⟩ := os_inv h
  obtain ⟨h3, h4⟩ := chk_inv h2
  rw [fV_eq] at h4
  rw [nd_iff] at h3
  refine Out.pure h4 (yFieldV_s (e := pureE ((kev τ x).v.fld k)) ho ?_) (by rw [kfld_v]; exact EImp.refl _)
  unfold fvS at h1
  split at h1
  · rename_i fs s' hu hs
    split at h1
    · rename_i fd d s2 hf hd
      split at h1
      · rename_i s3 _ hs3 hu3
        split at h1
        · rename_i hc
          cases h1
          unfold yFieldV
          rw [← hx]
          simp only [hu, hs, hf, hd, hs3, hu3]
          rw [if_pos ⟨isAggK_s h3.1, (kfits_s h3.2).1, hc.1, hc.2⟩]; rfl
        · cases h1
      · cases h1
    · cases h1
  · cases h1

/-! ### Conversions -/
inductive CvS where
  | num (k : IntKind)
  | str
  | toB
  | toS
  | mk
  | bad
def cvS (P : Program) (src dst : TypeId) : CvS := match P.underlying dst, P.underlying src with
  | some (.int k), some _ => .num k
  | some .string, some .string => .str
  | some (.slice e), some .string => match P.underlying e with
    | some (.int .u8) => .toB
    | _ => .bad
  | some .string, some (.slice e) => match P.underlying e with
    | some (.int .u8) => .toS
    | _ => .bad
  | some (.slice e), some (.slice _) => if dst = src then match P.underlying e with
    | some (.int .u8) => .mk
    | _ => .bad
    else .bad
  | _, _ => .bad
def kMk (lo : Nat) (zm : KZ) (nx : Nat) (K : KT) (id : Nat) (e : Shape) (len : Nat) : Prop :=
  oB zm id fun kd sh v => @Kind.rec (fun _ => Prop) (BadN 214) (fun _ => chk (nd (isScB e) (nd (Nat.ble lo id) (Nat.blt 0 len))) 215 (onPk (fun k n y => chk (ikEq k .u8) 216 (upB id .dead sh .unk zm fun zm => K (.ro true false .sc 0 len (.pk .u8 n y)) zm nx [id] [])) (BadN 217) v)) (BadN 218) (fun _ _ _ _ => BadN 218) kd
def kToS (zm : KZ) (nx : Nat) (K : KT) (e : Shape) (off len : Nat) (c : KV) (rd : List Nat) : Prop :=
  chk (isScB e) 157 (@Bool.rec (fun _ => Prop) (onPk (fun k _ x => chk (ikEq k .u8) 158 (fN (pkx .u8 x off len) fun y => K (.str len y) zm nx [] rd)) (BadN 159) c) (K (.str 0 0) zm nx [] rd) (Nat.beq len 0))
def kConv (lo : Nat) (P : Program) (src dst : TypeId) (x : KV) (zm : KZ) (nx : Nat) (K : KT) : Prop :=
  @CvS.rec (fun _ => Prop) (fun k => onInt (fun _ a => @Bool.rec (fun _ => Prop) (wrpP k a fun r => K (.int k r) zm nx [] []) (fI (wrpI k a) fun r => K (.int k r) zm nx [] []) Gl.cl) (BadN 160) x) (onStr (fun _ _ => K x zm nx [] []) (BadN 161) x)
    (onStr (fun n s => K (.ro true false .sc 0 n (.pk .u8 n s)) zm nx [] []) (BadN 162) x) (kSrc x zm (kToS zm nx K)) (onRow (kMk lo zm nx K) (BadN 219) x) (BadN 163) (cvS P src dst)
omit [KGl] in
theorem u8s_of {f : Nat → V} {g : Nat → Int} : ∀ (c i : Nat), (∀ j, j < c → f (i + j) = .int .u8 (g (i + j))) → u8s f c i = some ((List.range c).map fun j => g (i + j))
  | 0, i, h => rfl
  | c + 1, i, h => by
    have h0 := h 0 (by omega)
    rw [Nat.add_zero] at h0
    have h1 := u8s_of c (i + 1) fun j hj => by rw [show i + 1 + j = i + (j + 1) by omega]; exact h (j + 1) (by omega)
    simp only [u8s, h0, h1]
    rw [List.range_succ_eq_map, List.map_cons, List.map_map]
    simp only [Nat.add_zero]
    congr 2
    refine List.map_congr_left fun j _ => ?_
    show g (i + 1 + j) = g (i + (j + 1))
    congr 1; omega
theorem kConv_s {src dst : TypeId} {x : Operand} (ho : o.op = .convert src dst x) (h : kConv lo P src dst (kev τ x) zm nx K) : Out P B o τ lo zm nx K := by
  have hx := kev_v τ x
  unfold kConv cvS at h
  split at h
  · rename_i k d hd hs
    rcases onInt_inv (show onInt (fun _ a => @Bool.rec (fun _ => Prop) (wrpP k a fun r => K (.int k r) zm nx [] []) (fI (wrpI k a) fun r => K (.int k r) zm nx [] []) Gl.cl) (BadN 160) (kev τ x) from h) with ⟨k', a, ha, h1⟩ | ⟨_, h1⟩
    · have h1 : K (.int k (wrpI k a)) zm nx [] [] := by
        cases hc : (Gl.cl : Bool) with
        | false => rw [hc] at h1; exact wrpP_s (K := fun r => K (.int k r) zm nx [] []) h1
        | true => rw [hc] at h1; have h1 : fI (wrpI k a) fun r => K (.int k r) zm nx [] [] := h1; rwa [fI_eq] at h1
      rw [ha] at hx
      refine Out.pure h1 (yConvA_s (e := pureE (.int k (wrpI k a))) ho ?_) (EImp.refl _)
      rw [← hx]
      show (yConv P src dst (.int k' a)).is _
      unfold yConv
      rw [hd, hs]; rfl
    · exact h1.elim
  · rename_i hd hs
    rcases onStr_inv (show onStr (fun _ _ => K (kev τ x) zm nx [] []) (BadN 161) (kev τ x) from h) with ⟨n, s, ha, h1⟩ | ⟨_, h1⟩
    · refine Out.pure h1 (yConvA_s (e := pureE (kev τ x).v) ho ?_) (EImp.refl _)
      rw [← hx, ha]
      show (yConvS P src dst (.str (bytesOf n s)) (am zm)).is _
      unfold yConvS
      rw [hd, hs]; rfl
    · exact h1.elim
  · rename_i e hd hs
    split at h
    · rename_i he
      rcases onStr_inv (show onStr (fun n s => K (.ro true false .sc 0 n (.pk .u8 n s)) zm nx [] []) (BadN 162) (kev τ x) from h) with ⟨n, s, ha, h1⟩ | ⟨_, h1⟩
      · rw [ha] at hx
        have hsz : (bytesOf n s).size = n := by show ((List.range n).map _).length = n; simp
        refine Out.pure h1 (yConvA_s (e := pureE (.ro true false .sc (bytesOf n s).size (byteAt (bytesOf n s)))) ho ?_) ?_
        · rw [← hx]
          show (yConvS P src dst (.str (bytesOf n s)) (am zm)).is _
          unfold yConvS
          rw [hd, hs]
          simp only [he]; rfl
        · refine EImp.val ?_
          rw [hsz, v_ro]
          refine Imp.roE fun i hi => ?_
          show V.int .u8 ((((List.range n).map fun i => UInt8.ofNat (pkr .u8 s i)).getD i 0).toNat : Int) = .int .u8 (.ofNat (pkr .u8 s (0 + i)))
          rw [List.getD_eq_getElem?_getD, List.getElem?_map, List.getElem?_range hi, Option.map_some, Option.getD_some, UInt8.toNat_ofNat', Nat.zero_add]
          have := pkr_lt .u8 s i
          simp only [mdl] at this
          rw [Nat.mod_eq_of_lt (by omega)]; rfl
      · exact h1.elim
    · exact (show BadN 163 from h).elim
  · rename_i e hd hs
    split at h
    · rename_i he
      obtain ⟨e', off, len, c, rd, f, h1, h2, h3⟩ := kSrc_s (show kSrc (kev τ x) zm (kToS zm nx K) from h)
      obtain ⟨h4, h5⟩ := chk_inv h1
      obtain rfl := isScB_s h4
      have hnint : isIntV (kev τ x).v = false := by
        unfold srcV at h2
        split at h2
        · rename_i hv; rw [hv]; rfl
        · rename_i hv; rw [hv]; rfl
        · rename_i hv; rw [hv]; rfl
        · cases h2
      have fin : ∀ (y : Nat) (g : Nat → Int), K (.str len y) zm nx [] rd → (∀ j, j < len → f j = .int .u8 (g j)) → (∀ j, j < len → g j = .ofNat (pkr .u8 y j)) → Out P B o τ lo zm nx K := by
        intro y g hk hg hgy
        have hu := u8s_of (f := f) (g := g) len 0 (fun j hj => by rw [Nat.zero_add]; exact hg j hj)
        refine Out.pure hk (yConvA_s (e := ⟨.str (strOfNums ((List.range len).map fun j => g (0 + j))), [], [], rd⟩) ho ?_) ?_
        · unfold yConvA
          rw [← hx, hnint]
          show (yConvS P src dst (kev τ x).v (am zm)).is _
          unfold yConvS
          rw [hs, hd]
          simp only [he, h2, hu]; rfl
        · refine EImp.val ?_
          have : strOfNums ((List.range len).map fun j => g (0 + j)) = bytesOf len y := by
            unfold strOfNums bytesOf
            congr 2
            rw [List.map_map]
            refine List.map_congr_left fun j hj => ?_
            rw [List.mem_range] at hj
            show UInt8.ofNat (g (0 + j)).toNat = _
            rw [Nat.zero_add, hgy j hj]; rfl
          rw [this]; exact Imp.refl _
      cases hl : Nat.beq len 0 with
      | true =>
        obtain rfl := beqE hl
        exact fin 0 (fun _ => 0) h5 (fun j hj => by omega) (fun j hj => by omega)
      | false =>
        rw [hl] at h5
        rcases onPk_inv (show onPk (fun k _ x => chk (ikEq k .u8) 158 (fN (pkx .u8 x off len) fun y => K (.str len y) zm nx [] rd)) (BadN 159) c from h5) with ⟨k, n, y, rfl, h6⟩ | ⟨_, h6⟩
        · obtain ⟨h7, h8⟩ := chk_inv h6
          obtain rfl := ikEq_eq h7
          rw [fN_eq] at h8
          refine fin _ (fun j => .ofNat (pkr .u8 y (off + j))) h8 (fun j _ => ?_) fun j hj => by rw [pkr_pkx hj]
          rw [h3 j, kidx_v]; rfl
        · exact h6.elim
    · exact (show BadN 163 from h).elim
  · rename_i e e2 hd hs
    split at h
    · rename_i heq
      subst heq
      split at h
      · rename_i he
        rcases onRow_inv (show onRow (kMk lo zm nx K) (BadN 219) (kev τ x) from h) with ⟨id, e', len, ha, h1⟩ | ⟨_, h1⟩
        · obtain ⟨kd, sh, v, hb, h2⟩ := oB_inv h1
          rw [ha] at hx
          cases kd with
          | box => exact (show BadN 214 from h2).elim
          | dead => exact (show BadN 218 from h2).elim
          | lp k ps x y => exact (show BadN 218 from h2).elim
          | row et =>
            obtain ⟨h3, h4⟩ := chk_inv h2
            simp only [nd_iff] at h3
            obtain ⟨q1, q2, q3⟩ := h3
            obtain rfl := isScB_s q1
            rcases onPk_inv h4 with ⟨k, n, y, rfl, h5⟩ | ⟨_, h5⟩
            · obtain ⟨h6, h7⟩ := chk_inv h5
              obtain rfl := ikEq_eq h6
              have hu := u8s_of (f := fun i => V.int .u8 (pkg .u8 y i)) (g := fun i => pkg .u8 y i) len 0 (fun j hj => rfl)
              refine Out.up h7 (Nat.le_of_ble_eq_true q2) (yConvA_s (e := ⟨.ro true false .sc len fun i => V.int .u8 (dec .u8 (pkr .u8 y i)), [(id, ⟨.dead, sh, .unk⟩)], [], []⟩) ho ?_) ?_
              · rw [← hx]
                show (yConvS P _ _ (.row id .sc len) (am zm)).is _
                have he2 : e2 = e := by rw [hd] at hs; cases hs; rfl
                subst he2
                unfold yConvS
                rw [hd]
                simp only [if_true, he, am_some hb, KBlk.b, v_pk]
                rw [hu]
                simp only [q3, if_true]
                rfl
              · refine EImp.up1 ?_ (BImp.refl _)
                rw [v_ro]
                refine Imp.roE fun i hi => ?_
                show _ = V.int .u8 (dec .u8 (pkr .u8 y (0 + i)))
                rw [Nat.zero_add]
            · exact h5.elim
        · exact h1.elim
      · exact (show BadN 163 from h).elim
    · exact (show BadN 163 from h).elim
  · exact (show BadN 163 from h).elim
/-- An array's pointer made of a slice. -/
def arS (P : Program) (t : TypeId) : Option Nat := match P.underlying t with
  | some (.array n _) => some n
  | _ => none
def kArrC (n off : Nat) (c : KV) (K : KV → Prop) : Prop := onPk (fun k _ x => fN (pkx k x off n) fun x => K (.pk k n x)) (onAr (fun _ d t => chk (Nat.beq off 0) 164 (K (.ar n d t))) (BadN 165) c) c
def kArr (P : Program) (t : TypeId) (x : KV) (zm : KZ) (nx : Nat) (K : KT) : Prop := os 166 (fun n => onRo (fun u _ e off len c => cnd (Nat.blt 0 n && Nat.ble n len) (kArrC n off c fun c => K (.ref u (.arr n e) c) zm nx [] [])) (onSl (fun id p e off len _ => cnd (Nat.blt 0 n && Nat.ble n len) (snocK p (.sub off n) fun p => K (.ptr id p (.arr n e)) zm nx [] [])) (BadN 167) x) x) (arS P t)
theorem kArr_s {t : TypeId} {x : Operand} (ho : o.op = .sliceToArrayPointer t x) (h : kArr P t (kev τ x) zm nx K) : Out P B o τ lo zm nx K := by
  have hx := kev_v τ x
  obtain ⟨n, h1, h2⟩ := os_inv h
  obtain ⟨el, hu⟩ : ∃ el, P.underlying t = some (.array n el) := by
    unfold arS at h1
    split at h1
    · cases h1; exact ⟨_, ‹_›⟩
    · cases h1
  rcases onRo_inv h2 with ⟨u, cl, e, off, len, c, hp, h3⟩ | ⟨_, h3⟩
  · obtain ⟨h4, h5⟩ := cnd_iff.1 h3
    rw [hp] at hx
    have fin : ∀ c' : KV, K (.ref u (.arr n e) c') zm nx [] [] → Imp (.arr n fun i => c.v.step (.idx (off + i))) c'.v → Out P B o τ lo zm nx K := fun c' hk hi => by
      refine Out.pure hk (yArr_s (e := pureE (.ref u (.arr n e) (.arr n fun i => c.v.step (.idx (off + i))))) ho ?_) (EImp.val (Imp.refE hi))
      unfold yArr
      rw [hu, ← hx]
      exact tstE h4
    rcases onPk_inv h5 with ⟨k, m, y, rfl, h6⟩ | ⟨_, h6⟩
    · rw [fN_eq] at h6
      refine fin _ h6 (Imp.arrE fun i hi => ?_)
      show V.int k (dec k (pkr k y (off + i))) = V.int k (dec k (pkr k _ i))
      rw [pkr_pkx hi]
    · rcases onAr_inv h6 with ⟨m, d, t', rfl, h7⟩ | ⟨_, h7⟩
      · obtain ⟨h8, h9⟩ := chk_inv h7
        obtain rfl := beqE h8
        exact fin _ h9 (Imp.arrE fun i hi => by rw [Nat.zero_add]; rfl)
      · exact h7.elim
  rcases onSl_inv h3 with ⟨id, p, e, off, len, cap, hp, h4⟩ | ⟨_, h3⟩
  · obtain ⟨h5, h6⟩ := cnd_iff.1 h4
    rw [snocK_eq] at h6
    rw [hp] at hx
    rw [Bool.and_eq_true, Nat.blt_eq, Nat.ble_eq] at h5
    exact Out.pure h6 ⟨sem_arr_sl (ρ := opv Gl.G (tv' τ)) ho hx.symm hu h5.1 h5.2, UpIn.nil⟩ (EImp.refl _)
  · exact h3.elim
end
end
end Go.K
set_option linter.unusedVariables false
set_option linter.unusedSimpArgs false
set_option linter.constructorNameAsVariable false
namespace Go.K
open Go.Ab Go.RowKit Go.Y
noncomputable section
section
variable [Gl] {P : Program} {B : Nat}

/-! ### Results -/
/-- What a result's variable holds. -/
def RVal (P : Program) (τ : Nat → V) (μ : Mem) (r : ResultVar) (v : V) : Prop := match r with
  | .tmp t => τ t = v
  | .cell p t => ∃ s d id q blk, tshape P t = some s ∧ P.underlying t = some d ∧ τ p = .ptr id q s ∧ μ id = some blk ∧ blk.alive = true ∧ blk.v.path q = v
theorem RVal.s {H N : Nat} {C : Ctx} {M : Mem} {τ : Nat → V} {μ : Mem} {nx : Nat} {a : Act} (hz : GR B H C M μ nx) (ht : GT C τ a N) {r : ResultVar} {v : V} (h : RVal P τ μ r v) : ∃ val, (rdV a r).run P C.w = .ok val C.w ∧ R C v (.val val) := by
  cases r with
  | tmp t => obtain rfl : τ t = v := h; exact ⟨_, rfl, ht.tv t⟩
  | cell p t =>
    obtain ⟨s, d, id, q, blk, hs, hd, hp, hb, ha, rfl⟩ := h
    have hr := ht.tv p
    rw [hp] at hr
    obtain ⟨hal', g, off, h5, h6, h7⟩ := hr
    have h7' : a.tmps.getD p undef = .pointer (some ⟨g, off, none⟩) := h7
    obtain ⟨h8, _⟩ := BR.at (hz.sr.mem _ _ (hz.sub _ _ hb)) ha h5 h6
    obtain ⟨val, h9, h10⟩ := run_loadVar_tree hs hd h8
    exact ⟨val, by simp only [rdV, h7']; simpa [asAddr] using h9, h10⟩
def RVals (P : Program) (τ : Nat → V) (μ : Mem) : List ResultVar → V → Prop
  | [], v => v = .nl
  | r :: l, v => ∃ x w, v = .cons x w ∧ RVal P τ μ r x ∧ RVals P τ μ l w
theorem RVals.s {H N : Nat} {C : Ctx} {M : Mem} {τ : Nat → V} {μ : Mem} {nx : Nat} {a : Act} (hz : GR B H C M μ nx) (ht : GT C τ a N) : ∀ {l : List ResultVar} {v : V}, RVals P τ μ l v → ∃ xs, (l.mapM (rdV a)).run P C.w = .ok xs C.w ∧ R C v (.list xs) ∧ xs.length = l.length
  | [], v, h => by obtain rfl : v = .nl := h; exact ⟨[], rfl, rfl, rfl⟩
  | r :: l, v, h => by
    obtain ⟨x, w, rfl, h1, h2⟩ := h
    obtain ⟨x, e1, r1⟩ := h1.s hz ht
    obtain ⟨xs, e2, r2, hl⟩ := RVals.s hz ht h2
    refine ⟨x :: xs, ?_, ⟨x, xs, rfl, r1, r2⟩, by simp [hl]⟩
    rw [List.mapM_cons, Sem.run_bind, e1, Result.andThen_ok, Sem.run_bind, e2, Result.andThen_ok, Sem.run_pure]
/-- One result, or all of them. -/
def RAll (P : Program) (τ : Nat → V) (μ : Mem) (l : List ResultVar) (v : V) : Prop := match l with
  | [r] => RVal P τ μ r v
  | l => ∃ w, v = .tup w ∧ RVals P τ μ l w
theorem RAll.s {H N : Nat} {C : Ctx} {M : Mem} {τ : Nat → V} {μ : Mem} {nx : Nat} {a : Act} (hz : GR B H C M μ nx) (ht : GT C τ a N) {fn : Func} {v : V} (h : RAll P τ μ fn.results.toList v) : ∃ val, (results fn a.tmps).run P C.w = .ok val C.w ∧ R C v (.val val) := by
  have key : ∀ {w : V}, RVals P τ μ fn.results.toList w → ∃ xs : List Value, (fn.results.mapM (rdV a)).run P C.w = .ok xs.toArray C.w ∧ R C w (.list xs) ∧ xs.length = fn.results.toList.length := by
    intro w hw
    obtain ⟨xs, h1, h2, h3⟩ := hw.s hz ht
    refine ⟨xs, ?_, h2, h3⟩
    have : fn.results = fn.results.toList.toArray := by simp
    rw [this, List.mapM_toArray, map_eq_pure_bind, Sem.run_bind, h1]; rfl
  unfold RAll at h
  split at h
  · rename_i r hr
    obtain ⟨xs, h1, h2, h3⟩ := key (w := .cons v .nl) (by rw [hr]; exact ⟨v, .nl, rfl, h, rfl⟩)
    obtain ⟨x, xs', rfl, h4, h5⟩ := h2
    rw [hr] at h3
    have h6 : xs' = [] := by simpa using h3
    subst h6
    refine ⟨x, ?_, h4⟩
    rw [results_rdV, Sem.run_bind, h1]; rfl
  · rename_i hne
    obtain ⟨w, rfl, hw⟩ := h
    obtain ⟨xs, h1, h2, h3⟩ := key hw
    refine ⟨.tuple xs.toArray, ?_, xs.toArray, rfl, by simpa using h2⟩
    rw [results_rdV, Sem.run_bind, h1]
    have h4 : ¬ xs.toArray.size = 1 := by
      intro h5
      simp only [List.size_toArray] at h5
      rw [h5] at h3
      match hm : fn.results.toList, h3 with
      | [r], _ => exact hne r hm
      | [], h3 => simp at h3
      | _ :: _ :: _, h3 => simp at h3
    rw [Result.andThen_ok, dif_neg h4, Sem.run_pure]

/-! ### Calls -/
omit [Gl] in
/-- The temporaries that a call begins with. -/
theorem GT.enter {C : Ctx} {l : List V} {vs : List Value} (h : R C (mkL l) (.list vs)) (n : Nat) {τ : Nat → V} (h1 : ∀ t, τ t = if t < l.length then l.getD t .unk else .unk) :
    GT C τ { tmps := vs.toArray ++ Array.replicate (n - vs.toArray.size) undef, defers := [] } (l.length + (n - l.length)) := by
  have h2 := YT.enter h n
  refine ⟨fun t => ?_, by rw [h2.size, (mkL_list h).1]; exact Nat.le_refl _⟩
  have := h2.tv t
  rw [bindT_get] at this
  rw [h1]
  by_cases ht : t < l.length
  · rw [if_pos (by omega)] at this
    rw [if_pos ht]; exact this
  · rw [if_neg ht]; trivial
/-- The arguments. -/
def argT (l : List V) (t : Nat) : V := if t < l.length then l.getD t .unk else .unk
/-- A block that is no cells' has another content, and is known no longer. -/
theorem GR.drop {H : Nat} {C : Ctx} {M μ : Mem} {nx id D : Nat} {blk : Blk} (hz : GR B H C M μ nx) (hm : M id = some blk) (hl : blk.live = true) (hb : blkL? (C.sv id) = some D) (hμ : μ id = none) (o : Obj) :
    GR B H { C with w := setW C.w D o } (upd M id none) μ nx ∧ Kp B C { C with w := setW C.w D o } := by
  have hlt := hz.sr.lt hm hl hb
  have hk : Kp B C { C with w := setW C.w D o } := ⟨⟨fun _ h => h, fun _ _ => rfl, fun _ _ => rfl, fun _ _ h => h, fun u b hb' => setW_other (fun e => hz.sr.own id blk D hm hl hb u (e ▸ hb'))⟩,
    ⟨rfl, rfl, rfl, by show C.w.heap.size ≤ (setW C.w D o).heap.size; rw [setW_size]; exact Nat.le_refl _, fun k hk => setW_other (by omega)⟩, fun _ _ h => .inl (.inl h)⟩
  refine ⟨⟨hz.sr.next hk (fun i => i = id) (fun i hi => upd_other _ _ hi) ?_ ?_ ?_ ?_ ?_, fun i b hi => ?_, hz.al⟩, hk⟩
  · intro i blk1 b1 hi hm1 ha1 hb1
    exact setW_other fun e => hi (hz.sr.sep i id blk1 blk b1 hm1 ha1 hm hl hb1 (e ▸ hb))
  · intro i blk1 hi hm1
    subst hi; rw [upd_same] at hm1; cases hm1
  · intro u b hb'
    show b < (setW C.w D o).heap.size
    rw [setW_size]; exact hz.sr.okLt u b hb'
  · intro i i' b1 b2 b h1 h2 h3 h4 hi
    subst hi; rw [upd_same] at h1; cases h1
  · intro i b1 b h1 h2 h3 u hok
    by_cases hi : i = id
    · subst hi; rw [upd_same] at h1; cases h1
    · rw [upd_other _ _ hi] at h1; exact hz.sr.own i b1 b h1 h2 h3 u hok
  · by_cases hi' : i = id
    · subst hi'; rw [hμ] at hi; cases hi
    · rw [upd_other _ _ hi']; exact hz.sub i b hi
/-- A function is left: nothing was deferred. -/
theorem leave_s {H : Nat} {C : Ctx} {M μ μ' : Mem} {nx nx' N : Nat} {τ' : Nat → V} {fn : Func} {v : V} {a : Act} (hnx : nx' ≤ H) (hv : RAll P τ' μ' fn.results.toList v) :
    ∀ (ds : List Deferred) (C1 : Ctx) (M1 : Mem), (∀ d ∈ ds, ∃ id D k ps x y sh, (nx ≤ id ∧ id < nx') ∧ μ' id = none ∧ M1 id = some ⟨.lp k ps x y, sh, .nilf⟩ ∧ C1.sv id = .pointer (some ⟨D, 0, none⟩) ∧ d = ⟨.collected D, #[]⟩) → ds.Nodup →
      GR B H C1 M1 μ' nx' → GC B H C M μ nx C1 M1 μ' nx' → GT C1 τ' a N →
      Leaves P fn a.tmps (fun e w' => ∃ val, e = .returned val ∧ ∃ C' M', C'.w = w' ∧ R C' v (.val val) ∧ GR B H C' M' μ' nx' ∧ GC B H C M μ nx C' M' μ' nx') ds C1.w
  | [], C1, M1, _, _, hz, hc, ht => by
    obtain ⟨val, q1, q2⟩ := hv.s hz ht
    exact ⟨val, q1, val, rfl, C1, M1, rfl, q2, hz, hc⟩
  | d :: ds, C1, M1, hd, hn, hz, hc, ht => by
    obtain ⟨id, D, k, ps, x, y, sh, hid, h1, h2, h3, h4⟩ := hd d (by simp)
    have hbr := hz.sr.mem id _ h2
    have hD : B ≤ D ∧ C1.w.heap[D]? = some (.deferred (some [])) := by
      rcases (show LoopR B C1 id k ps x y .nilf from hbr) with ⟨_, _, _, _, _, _, _, _, _, e, _⟩ | ⟨_, D', e1, e2, e3⟩
      · cases e
      · rw [h3] at e1; cases e1; exact ⟨e2, e3⟩
    refine ⟨D, h4, hD.2, ?_⟩
    obtain ⟨q1, q2⟩ := hz.drop h2 rfl (by rw [h3]; rfl) h1 (.deferred none)
    rw [List.nodup_cons] at hn
    refine leave_s hnx hv ds _ (upd M1 id none) (fun d' hd' => ?_) hn.2 q1 ⟨hc.kp.trans q2, hc.al, fun i hi hμ => ?_⟩ (ht.keep q2.toKeep)
    · obtain ⟨id', D', k', ps', x', y', sh', hid', g1, g2, g3, g4⟩ := hd d' (by simp [hd'])
      have hne : id' ≠ id := by
        intro e; subst e
        rw [h3] at g3; cases g3
        exact hn.1 (by rw [h4, ← g4]; exact hd')
      exact ⟨id', D', k', ps', x', y', sh', hid', g1, by rw [upd_other _ _ hne]; exact g2, g3, g4⟩
    · obtain ⟨r1, r2⟩ := hc.fr i hi hμ
      exact ⟨by rw [upd_other _ _ (by omega)]; exact r1, r2⟩
theorem GCall.body {fid : FuncId} {fn : Func} {c : Code} {l : List V} {μ μ' : Mem} {nx nx' mx' : Nat} {τ τ' : Nat → V} {e : Exit} {v : V} (hfn : P.funcs[fid]? = some fn) (hb : fn.body = some c) (h1 : TImp (argT l) τ)
    (h : GRuns P B c τ μ nx (l.length + (fn.ntmps - l.length)) e τ' μ' nx' mx') (he : e = .normal ∨ e = .ret) (hv : RAll P τ' μ' fn.results.toList v) : GCall P B fid l μ nx v μ' nx' mx' := by
  intro H C M vals hH hH2 hz h6
  have hent := (GT.enter (τ := argT l) h6 fn.ntmps fun _ => rfl).imp h1
  refine calls_leaving hfn hb (wpIn_mono (h none nx H C M _ hH hH2 hz (by have := (mkL_list h6).1; simpa [this] using hent) ⟨(fun d hd => ((by cases hd))), List.nodup_nil, Nat.le_refl _, (fun l hl => ((by cases hl)))⟩) ?_)
  rintro e' a w' ⟨rfl, C', M', rfl, hf⟩
  exact ⟨he, leave_s hH hv a.defers C' M' hf.sd.df hf.sd.nd hf.yr hf.yc hf.yt⟩
/-- What a function's value and arguments come to. -/
def FnArgs (τ : Nat → V) (f : Operand) (args : Array Operand) (fid : FuncId) (L : List V) : Prop :=
  ∀ (C : Ctx) (ρc : Operand → Value), R C (opv Gl.G τ f) (.val (ρc f)) → R C (mkL (args.toList.map (opv Gl.G τ))) (.list (args.toList.map ρc)) → ∃ fs cs : Array Value, ρc f = .func (.func fid) fs cs ∧ R C (mkL L) (.list (fs.toList ++ args.toList.map ρc ++ cs.toList))
theorem FnArgs.plain {τ : Nat → V} {f : Operand} {args : Array Operand} {fid : FuncId} {caps : V} (hf : opv Gl.G τ f = .fn fid caps) (hlt : fid < 1073741824) : FnArgs τ f args fid (args.toList.map (opv Gl.G τ) ++ unL caps) := by
  intro C ρc h0 h3
  rw [hf] at h0
  obtain ⟨cs, h1, h2⟩ := R.fn0 hlt h0
  exact ⟨#[], cs, h1, mkL_app h3 (mkL_unL h2)⟩
theorem FnArgs.meth {τ : Nat → V} {f : Operand} {args : Array Operand} {fid : FuncId} {first rest : V} (hf : opv Gl.G τ f = .fn fid (.cons (.tup first) rest)) (hlt : ¬ fid < 1073741824) : FnArgs τ f args (fnId fid) (unL first ++ (args.toList.map (opv Gl.G τ) ++ unL rest)) := by
  intro C ρc h0 h3
  rw [hf] at h0
  obtain ⟨fs, cs, h1, h2, h4⟩ := R.fn1 hlt h0
  refine ⟨fs, cs, h1, ?_⟩
  rw [List.append_assoc]
  exact mkL_app (mkL_unL h2) (mkL_app h3 (mkL_unL h4))
omit [Gl] in
theorem enter_run2 {o : Oper} {f : Operand} {args : Array Operand} {ts : Array TypeId} {ρc : Operand → Value} {fid : FuncId} {fs cs : Array Value} {fn : Func} {w : World} (ho : o.op = .call ⟨.value f, args, ts⟩) (h1 : ρc f = .func (.func fid) fs cs) (hfn : P.funcs[fid]? = some fn)
    (hname : (fn.name == "runtime.NumGoroutine") = false) (hbody : fn.body.isNone = false) : (execOp ρc o).run P w = .ok (.enter fid (fs.toList ++ args.toList.map ρc ++ cs.toList).toArray) w := by
  simp only [execOp, ho, resolve, h1, Deferred.ofValue, Sem.run_bind, Sem.run_pure, Result.andThen_ok, invoke, callFunc, run_program, hfn, hname, hbody, Bool.false_eq_true, if_false]
  simp
/-- A call of a function's value. -/
theorem GCall.does {o : Oper} {f : Operand} {args : Array Operand} {ts : Array TypeId} {τ : Nat → V} {μ μ' : Mem} {nx nx' mx' : Nat} {fid : FuncId} {fn : Func} {L : List V} {v : V} (ho : o.op = .call ⟨.value f, args, ts⟩) (hf : FnArgs τ f args fid L)
    (hfn : P.funcs[fid]? = some fn) (hname : (fn.name == "runtime.NumGoroutine") = false) (hbody : fn.body.isNone = false) (h : GCall P B fid L μ nx v μ' nx' mx') : GDoes P B o τ μ nx v μ' nx' mx' := by
  intro H C M ρc hH hH2 hz hx
  obtain ⟨h0, h3⟩ := call_args ho hx
  obtain ⟨fs, cs, h1, h2⟩ := hf C ρc h0 h3
  unfold Does
  rw [enter_run2 ho h1 hfn hname hbody]
  exact (h H C M _ hH hH2 hz h2).mono fun e w' ⟨v, he, hp⟩ => ⟨v, he, hp⟩
/-- Names from there on are free again. -/
theorem GCall.reset (hgn : ∀ g, noId (Gl.G g) = true) {fid : FuncId} {l : List V} {μ μ' : Mem} {nx nx' mx' : Nat} {v : V} (h : GCall P B fid l μ nx v μ' nx' mx') (hmb : MB μ nx) (hlow : ∀ id, id < nx → μ' id = μ id) (hv : v.bel nx) (hle : nx ≤ nx') {mx2 : Nat} (h1 : nx' ≤ mx2) (h2 : mx' ≤ mx2) : GCall P B fid l μ nx v μ nx mx2 := by
  intro H C M vals hH hH2 hz hl
  refine (h H C M vals (by omega) (by omega) hz hl).mono ?_
  rintro e w' ⟨val, he, C1, M1, hw, hR, h1, hc⟩
  have hold : ∀ id, C.al id → id < nx ∨ H ≤ id := fun id hid => by
    rcases Nat.lt_or_ge id nx with h | h
    · exact .inl h
    · rcases Nat.lt_or_ge id H with h' | h'
      · exact absurd hid (hz.al id h h')
      · exact .inr h'
  let M2 : Mem := fun id => if id < nx ∨ H ≤ id then M1 id else none
  have hM2 : ∀ id c, M2 id = some c → M1 id = some c ∧ M id = some c ∧ (id < nx ∨ H ≤ id) := by
    intro id c hx
    replace hx : (if id < nx ∨ H ≤ id then M1 id else none) = some c := hx
    by_cases hi : id < nx ∨ H ≤ id
    · rw [if_pos hi] at hx
      refine ⟨hx, ?_, hi⟩
      cases hm : μ id with
      | none => rw [← (hc.fr id hi hm).1]; exact hx
      | some b =>
        have q1 : id < nx := by
          rcases Nat.lt_or_ge id nx with q | q
          · exact q
          · rw [hmb id q] at hm; cases hm
        have q2 := h1.sub id b (by rw [hlow id q1]; exact hm)
        rw [q2] at hx; cases hx
        exact hz.sub id _ hm
    · rw [if_neg hi] at hx; cases hx
  have hkeep : Keep C (cutC C1 nx H) := ⟨fun id hid => ⟨hc.kp.al id hid, hold id hid⟩, hc.kp.sv, hc.kp.shp, hc.kp.ok, hc.kp.heap⟩
  refine ⟨val, he, cutC C1 nx H, M2, hw, R.cutLow _ hv hR, ⟨⟨h1.sr.base, h1.sr.okLt, ?_, ?_, ?_, ?_, fun g => R.keep (C := C1.pur) (C' := cutC C1 nx H) ⟨fun _ h => h.elim, fun _ h => h.elim, fun _ h => h.elim, fun _ _ h => h, fun _ _ _ => rfl⟩ _ _ (R.pure_of _ (hgn g) (h1.sr.gl g))⟩, ?_, ?_⟩, ⟨⟨hkeep, hc.kp.below, hc.kp.okn⟩, ?_, ?_⟩⟩
  · intro id c hx
    obtain ⟨q1, _, q3⟩ := hM2 id c hx
    exact ⟨h1.sr.al id c q1, q3⟩
  · intro id c hx
    obtain ⟨q1, q2, _⟩ := hM2 id c hx
    by_cases hd : c.k = .dead
    · unfold BR; rw [hd]; trivial
    have hb := hz.sr.mem id c q2
    unfold BR at hb
    refine BR.mk (h1.sr.mem id c q1) rfl rfl (fun hnl m hr => ?_) fun k ps x y e hl => ?_
    · cases hkd : c.k <;> simp only [hkd] at hb
      · obtain ⟨g, cur, e, _, _, _, _, _, h6⟩ := hb; exact R.two hold _ h6 hr
      · obtain ⟨n1, s, cells, _, _, _, h6⟩ := hb; exact R.two hold _ h6 hr
      · exact absurd hkd hd
      · exact absurd hkd (hnl _ _ _ _)
    · rw [e] at hb; exact LoopR.two hold hb hl
  · intro id id' c c' b q1 q2 q3 q4 q5 q6
    exact h1.sr.sep id id' c c' b (hM2 id c q1).1 q2 (hM2 id' c' q3).1 q4 q5 q6
  · intro id c b q1 q2 q3 u
    exact h1.sr.own id c b (hM2 id c q1).1 q2 q3 u
  · intro id c hx
    have q1 : id < nx := by
      rcases Nat.lt_or_ge id nx with q | q
      · exact q
      · rw [hmb id q] at hx; cases hx
    show (if id < nx ∨ H ≤ id then M1 id else none) = some c
    rw [if_pos (.inl q1)]
    exact h1.sub id c (by rw [hlow id q1]; exact hx)
  · intro id q1 q2 q3
    rcases q3.2 with h | h
    · omega
    · omega
  · intro id hid
    rcases hc.al id hid.1 with h | h
    · exact .inl h
    · rcases hid.2 with h' | h'
      · omega
      · omega
  · intro id hid hn
    obtain ⟨q1, q2⟩ := hc.fr id hid hn
    refine ⟨?_, hn⟩
    show (if id < nx ∨ H ≤ id then M1 id else none) = M id
    rw [if_pos hid, q1]
/-- What is there, as a list. -/
def dom (μ : Mem) (nx : Nat) : List Nat := (List.range nx).filter fun id => (μ id).isSome
omit [Gl] in
theorem dom_lt {μ : Mem} {nx id : Nat} (h : id ∈ dom μ nx) : id < nx := by simp [dom] at h; exact h.1
omit [Gl] in
theorem dom_mem {μ : Mem} {nx id : Nat} {b : Blk} (hm : MB μ nx) (h : μ id = some b) : id ∈ dom μ nx := by
  have : id < nx := by
    rcases Nat.lt_or_ge id nx with q | q
    · exact q
    · rw [hm id q] at h; cases h
  simp [dom, this, h]
def newL (μ' : Mem) (nx nx' : Nat) : List Blk := (List.range (nx' - nx)).map fun i => (μ' (nx + i)).getD deadB
/-- A call, wherever it comes up: it writes nothing that was there. -/
theorem GDoes.st {o : Oper} {τ : Nat → V} {μ μ' : Mem} {nx nx' mx' : Nat} {v : V} (h : GDoes P B o τ μ nx v μ' nx' mx') (hmb : MB μ nx) (hmb' : MB μ' nx') (hlow : ∀ id, id < nx → μ' id = μ id) (hle : nx ≤ nx') (hx : mx' ≤ nx') :
    GSt P B o τ μ μ' nx nx' v [] (dom μ nx) ⟨v, [], newL μ' nx nx', dom μ nx⟩ := by
  have hlen : (newL μ' nx nx').length = nx' - nx := by simp [newL]
  have hget : ∀ i, i < nx' - nx → (newL μ' nx nx')[i]? = some ((μ' (nx + i)).getD deadB) := by
    intro i hi
    unfold newL
    rw [List.getElem?_map, List.getElem?_range hi]; rfl
  have htouch : ∀ id, touch (⟨v, [], newL μ' nx nx', dom μ nx⟩ : Eff) nx id = if nx ≤ id ∧ id < nx' then some ((μ' id).getD deadB) else none := by
    intro id
    unfold touch
    simp only [hlen, List.lookup_nil]
    by_cases h1 : nx ≤ id ∧ id < nx'
    · rw [if_pos (by omega), if_pos h1, hget _ (by omega), show nx + (id - nx) = id by omega]
    · rw [if_neg (by omega), if_neg h1]
  refine ⟨rfl, by show nx' = nx + (newL μ' nx nx').length; omega, rfl, rfl, (by intro x hx; cases hx), ?_, ?_, ?_⟩
  · intro id hid hn
    rcases hid with hid | hid
    · rw [hlow id hid]; exact hn
    · exact hmb' id hid
  · intro M hM C M1 ρc hs hrd _ hfresh hop
    have hrd' : ∀ id ∈ dom μ nx, M1 id = M id := hrd
    have hfr : ∀ id, nx ≤ id → id < nx' → ¬ C.al id := by
      intro id h1 h2
      have := hfresh (id - nx) (by show id - nx < (newL μ' nx nx').length; omega)
      rwa [show nx + (id - nx) = id by omega] at this
    refine (h nx' C M1 ρc (Nat.le_refl _) hx ⟨hs, fun id b hb => by rw [hrd' id (dom_mem hmb hb)]; exact hM id b hb, hfr⟩ hop).mono ?_
    rintro val w' ⟨C', M', hw, hR, hz, hc⟩
    let C2 : Ctx := { C' with al := fun id => C'.al id ∨ (nx ≤ id ∧ id < nx') }
    have hk2 : Keep C' C2 := ⟨fun _ h => .inl h, fun _ _ => rfl, fun _ _ => rfl, fun _ _ h => h, fun _ _ _ => rfl⟩
    have hput : ∀ id blk, put M1 nx (⟨v, [], newL μ' nx nx', dom μ nx⟩ : Eff) id = some blk → (blk = deadB ∧ nx ≤ id ∧ id < nx') ∨ (M' id = some blk) := by
      intro id blk hb
      unfold put at hb
      rw [htouch] at hb
      by_cases h1 : nx ≤ id ∧ id < nx'
      · rw [if_pos h1] at hb
        cases hm : μ' id with
        | none => rw [hm] at hb; exact .inl ⟨(Option.some.inj hb).symm, h1.1, h1.2⟩
        | some b => rw [hm] at hb; exact .inr (by rw [hz.sub id b hm]; exact hb)
      · rw [if_neg h1] at hb
        right
        cases hm : μ id with
        | none => rw [(hc.fr id (by omega) hm).1]; exact hb
        | some b =>
          have q1 : id < nx := dom_lt (dom_mem hmb hm)
          have q2 := hz.sub id b (by rw [hlow id q1]; exact hm)
          rw [q2, ← hb]
          show some b = M1 id
          rw [hrd' id (dom_mem hmb hm), hM id b hm]
    refine ⟨C2, hw, R.keep hk2 _ _ hR, ⟨⟨fun id h => .inl (hc.kp.al id h), hc.kp.sv, hc.kp.shp, hc.kp.ok, hc.kp.heap⟩, hc.kp.below, hc.kp.okn⟩, ⟨hz.sr.base, hz.sr.okLt, ?_, ?_, ?_, ?_, fun g => R.keep hk2 _ _ (hz.sr.gl g)⟩, ?_⟩
    · intro id blk hb
      rcases hput id blk hb with ⟨_, h1, h2⟩ | h1
      · exact .inr ⟨h1, h2⟩
      · exact .inl (hz.sr.al id blk h1)
    · intro id blk hb
      rcases hput id blk hb with ⟨rfl, _, _⟩ | h1
      · trivial
      · exact (hz.sr.mem id blk h1).keep (hz.sr.al id blk h1) hk2 fun _ _ => rfl
    · intro id id' blk blk' b h1 h2 h3 h4 h5 h6
      rcases hput id blk h1 with ⟨rfl, _, _⟩ | h1
      · cases h2
      · rcases hput id' blk' h3 with ⟨rfl, _, _⟩ | h3
        · cases h4
        · exact hz.sr.sep id id' blk blk' b h1 h2 h3 h4 h5 h6
    · intro id blk b h1 h2 h3
      rcases hput id blk h1 with ⟨rfl, _, _⟩ | h1
      · cases h2
      · exact hz.sr.own id blk b h1 h2 h3
    · intro id hid
      show C.al id ∨ (nx ≤ id ∧ id < nx + (newL μ' nx nx').length)
      rcases hid with hid | hid
      · rcases hc.al id hid with h1 | h1
        · exact .inl h1
        · exact .inr ⟨h1.1, by omega⟩
      · exact .inr ⟨hid.1, by omega⟩
  · intro _ M hM id b hb
    unfold put
    rw [htouch]
    by_cases h1 : nx ≤ id ∧ id < nx'
    · rw [if_pos h1, hb]; rfl
    · rw [if_neg h1]
      have q1 : id < nx := by
        rcases Nat.lt_or_ge id nx' with q | q
        · omega
        · rw [hmb' id q] at hb; cases hb
      exact hM id b (by rw [← hlow id q1]; exact hb)

omit [Gl] in
theorem lookup_map (U : List Nat) (f : Nat → Blk) (id : Nat) : (U.map fun i => (i, f i)).lookup id = if id ∈ U then some (f id) else none := by
  induction U with
  | nil => rfl
  | cons x U ih =>
    rw [List.map_cons, List.lookup_cons]
    by_cases h : id = x
    · subst h; simp
    · rw [show (id == x) = false by simpa using h]
      simp only [ih, List.mem_cons, h, false_or]
/-- A call, wherever it comes up, that writes some of what was there. -/
theorem GDoes.stW {U : List Nat} {o : Oper} {τ : Nat → V} {μ μ' : Mem} {nx nx' mx' : Nat} {v : V} (h : GDoes P B o τ μ nx v μ' nx' mx') (hmb : MB μ nx) (hmb' : MB μ' nx') (hlow : ∀ id, id < nx → id ∉ U → μ' id = μ id) (hU : ∀ id ∈ U, id < nx ∧ (∃ b, μ id = some b) ∧ ∃ b, μ' id = some b) (hle : nx ≤ nx') (hx : mx' ≤ nx') :
    GSt P B o τ μ μ' nx nx' v U (dom μ nx) ⟨v, U.map (fun id => (id, (μ' id).getD deadB)), newL μ' nx nx', dom μ nx⟩ := by
  have hlen : (newL μ' nx nx').length = nx' - nx := by simp [newL]
  have hget : ∀ i, i < nx' - nx → (newL μ' nx nx')[i]? = some ((μ' (nx + i)).getD deadB) := by
    intro i hi
    unfold newL
    rw [List.getElem?_map, List.getElem?_range hi]; rfl
  have htouch : ∀ id, touch (⟨v, U.map (fun id => (id, (μ' id).getD deadB)), newL μ' nx nx', dom μ nx⟩ : Eff) nx id = if nx ≤ id ∧ id < nx' then some ((μ' id).getD deadB) else if id ∈ U then some ((μ' id).getD deadB) else none := by
    intro id
    unfold touch
    simp only [hlen]
    by_cases h1 : nx ≤ id ∧ id < nx'
    · rw [if_pos (by omega), if_pos h1, hget _ (by omega), show nx + (id - nx) = id by omega]
    · rw [if_neg (by omega), if_neg h1, lookup_map]
  refine ⟨rfl, by show nx' = nx + (newL μ' nx nx').length; omega, by rw [List.map_map]; exact List.map_id' U, rfl, (by intro x hx; obtain ⟨id, hid, rfl⟩ := List.mem_map.1 hx; exact (hU id hid).2.1), ?_, ?_, ?_⟩
  · intro id hid hn
    rcases hid with hid | hid
    · rw [hlow id hid (fun h => by obtain ⟨_, ⟨b, hb⟩, _⟩ := hU id h; rw [hb] at hn; cases hn)]; exact hn
    · exact hmb' id hid
  · intro M hM C M1 ρc hs hrd _ hfresh hop
    have hrd' : ∀ id ∈ dom μ nx, M1 id = M id := hrd
    have hfr : ∀ id, nx ≤ id → id < nx' → ¬ C.al id := by
      intro id h1 h2
      have := hfresh (id - nx) (by show id - nx < (newL μ' nx nx').length; omega)
      rwa [show nx + (id - nx) = id by omega] at this
    refine (h nx' C M1 ρc (Nat.le_refl _) hx ⟨hs, fun id b hb => by rw [hrd' id (dom_mem hmb hb)]; exact hM id b hb, hfr⟩ hop).mono ?_
    rintro val w' ⟨C', M', hw, hR, hz, hc⟩
    let C2 : Ctx := { C' with al := fun id => C'.al id ∨ (nx ≤ id ∧ id < nx') }
    have hk2 : Keep C' C2 := ⟨fun _ h => .inl h, fun _ _ => rfl, fun _ _ => rfl, fun _ _ h => h, fun _ _ _ => rfl⟩
    have hput : ∀ id blk, put M1 nx (⟨v, U.map (fun id => (id, (μ' id).getD deadB)), newL μ' nx nx', dom μ nx⟩ : Eff) id = some blk → (blk = deadB ∧ nx ≤ id ∧ id < nx') ∨ (M' id = some blk) := by
      intro id blk hb
      unfold put at hb
      rw [htouch] at hb
      by_cases h1 : nx ≤ id ∧ id < nx'
      · rw [if_pos h1] at hb
        cases hm : μ' id with
        | none => rw [hm] at hb; exact .inl ⟨(Option.some.inj hb).symm, h1.1, h1.2⟩
        | some b => rw [hm] at hb; exact .inr (by rw [hz.sub id b hm]; exact hb)
      · rw [if_neg h1] at hb
        right
        by_cases hiU : id ∈ U
        · rw [if_pos hiU] at hb
          obtain ⟨_, _, b, hm⟩ := hU id hiU
          rw [hm] at hb
          rw [hz.sub id b hm]; exact hb
        rw [if_neg hiU] at hb
        cases hm : μ id with
        | none => rw [(hc.fr id (by omega) hm).1]; exact hb
        | some b =>
          have q1 : id < nx := dom_lt (dom_mem hmb hm)
          have q2 := hz.sub id b (by rw [hlow id q1 hiU]; exact hm)
          rw [q2, ← hb]
          show some b = M1 id
          rw [hrd' id (dom_mem hmb hm), hM id b hm]
    refine ⟨C2, hw, R.keep hk2 _ _ hR, ⟨⟨fun id h => .inl (hc.kp.al id h), hc.kp.sv, hc.kp.shp, hc.kp.ok, hc.kp.heap⟩, hc.kp.below, hc.kp.okn⟩, ⟨hz.sr.base, hz.sr.okLt, ?_, ?_, ?_, ?_, fun g => R.keep hk2 _ _ (hz.sr.gl g)⟩, ?_⟩
    · intro id blk hb
      rcases hput id blk hb with ⟨_, h1, h2⟩ | h1
      · exact .inr ⟨h1, h2⟩
      · exact .inl (hz.sr.al id blk h1)
    · intro id blk hb
      rcases hput id blk hb with ⟨rfl, _, _⟩ | h1
      · trivial
      · exact (hz.sr.mem id blk h1).keep (hz.sr.al id blk h1) hk2 fun _ _ => rfl
    · intro id id' blk blk' b h1 h2 h3 h4 h5 h6
      rcases hput id blk h1 with ⟨rfl, _, _⟩ | h1
      · cases h2
      · rcases hput id' blk' h3 with ⟨rfl, _, _⟩ | h3
        · cases h4
        · exact hz.sr.sep id id' blk blk' b h1 h2 h3 h4 h5 h6
    · intro id blk b h1 h2 h3
      rcases hput id blk h1 with ⟨rfl, _, _⟩ | h1
      · cases h2
      · exact hz.sr.own id blk b h1 h2 h3
    · intro id hid
      show C.al id ∨ (nx ≤ id ∧ id < nx + (newL μ' nx nx').length)
      rcases hid with hid | hid
      · rcases hc.al id hid with h1 | h1
        · exact .inl h1
        · exact .inr ⟨h1.1, by omega⟩
      · exact .inr ⟨hid.1, by omega⟩
  · intro _ M hM id b hb
    unfold put
    rw [htouch]
    by_cases h1 : nx ≤ id ∧ id < nx'
    · rw [if_pos h1, hb]; rfl
    · rw [if_neg h1]
      by_cases hiU : id ∈ U
      · rw [if_pos hiU, hb]; rfl
      rw [if_neg hiU]
      have q1 : id < nx := by
        rcases Nat.lt_or_ge id nx' with q | q
        · omega
        · rw [hmb' id q] at hb; cases hb
      exact hM id b (by rw [← hlow id q1 hiU]; exact hb)

/-! ### Contracts -/
/-- What is lent, instead of what is its own. -/
def Lend (B : Nat) (μ : Mem) (l0 l : List V) : Prop := ∀ (C : Ctx) (M : Mem) (vals : List Value), SR B C M → Sub μ M → R C (mkL l0) (.list vals) → R (C.opened B) (mkL l) (.list vals)
/-- By a contract. -/
theorem con_call (hgn : ∀ g, noId (Gl.G g) = true) {c : CSpec} {fid : FuncId} {l0 l : List V} {μ : Mem} {nx mx : Nat} (hc : CSoundG P fid c) (hf : c.fresh = true) (hn : Lend B μ l0 l) (hp : c.pre (unL (mkL l)) = true) : GCall P B fid l0 μ nx (c.res (unL (mkL l))) μ nx mx := by
  intro H C M vals hH _ hz hl
  have h := con_does (s := (Pure.pure (Next.enter fid vals.toArray) : Sem Next)) hz.sr hgn hc rfl (.inl ⟨hf, hn C M vals hz.sr hz.sub hl⟩) hp
  have h0 : Calls P fid vals.toArray C.w fun e w'' => ∃ v, e = .returned v ∧ ∃ C', C'.w = w'' ∧ R C' (lendR c (mkL l)) (.val v) ∧ Kp B C C' ∧ SR B C' M ∧ (∀ id, C'.al id → C.al id) := h
  refine h0.mono ?_
  rintro e w' ⟨val, he, C', hw, hR, hk, hs, hal⟩
  have hv : lendR c (mkL l) = c.res (unL (mkL l)) := by unfold lendR; rw [hf]
  rw [hv] at hR
  exact ⟨val, he, C', M, hw, hR, ⟨hs, hz.sub, fun id h1 h2 h3 => hz.al id h1 h2 (hal id h3)⟩, ⟨hk, fun id h => .inl (hal id h), fun _ _ h => ⟨rfl, h⟩⟩⟩
end
end
end Go.K
