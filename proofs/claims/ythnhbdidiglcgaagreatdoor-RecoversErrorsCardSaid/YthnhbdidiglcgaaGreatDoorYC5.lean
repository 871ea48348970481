/- The reference's compression. No condition. The reference's compression: the contract. No condition. -/
import Derived.Test.YthnhbdidiglcgaaGreatDoorYL2
set_option linter.unusedVariables false
set_option linter.unusedSimpArgs false
set_option maxRecDepth 100000
namespace Go.Y
open Go.Ab Go.RowKit Go.Proofs
noncomputable section
def c165 : Code := codeOf 261
def r165 : Code := cSnd (cSnd (cSnd c165))
def c165a : Code := cBdy (cBdy (cSnd (cFst r165)))
def c165b : Code := cBdy (cBdy (cSnd (cFst (cSnd (cSnd r165)))))
def roB (cl : Bool) (b : Nat → Nat) : V := .ro true cl .sc 64 fun i => wV .u8 (b i)
def T165a (cl : Bool) (b : Nat → Nat) (t : Nat) : List V := [roB cl b, p8 0, p8 1, p64 4, p64 6, wV .i64 t]
def T165b (s : S.St) (t : Nat) : List V := [p8 0, p8 1, p64 4, p64 6, wV .u32 s.a, wV .u32 s.b, wV .u32 s.c, wV .u32 s.d, wV .u32 s.e, wV .u32 s.f, wV .u32 s.g, wV .u32 s.h, wV .i64 t]
def M1 : List Nat := [1, 2, 4, 5, 7, 8]
def M2 : List Nat := [2, 4, 5, 7, 13, 14, 15, 16, 17, 18, 19, 20, 21]
def MZ : List Nat := [0, 1, 4, 6]
def Z165 (h z k w : Nat → Nat) : List Blk := [b8 h, b8 z, b64 k, b64 w]
def kT : V := bset false (arrW .u32 64 fun _ => 0) ((List.range 64).map fun i => (i, wV .u32 (constL.getD i 0)))
def Ps165a (t : Nat) : Prop := ∀ (cl : Bool) (b h z k w : Nat → Nat) (Q : Q4), runL ct1 true c165a (mkT M1 (T165a cl b t)) (mkZ MZ (Z165 h z k w)) 7 (outK M1 MZ Q) = Q .normal (T165a cl b (t + 1)) [some (b8 h), some (b8 z), some (b64 k), some ⟨.box 405, .arr 64 .sc, V.set [.idx t] (wV .u32 (R.load32 b t)) (arrW .u32 64 w)⟩] 7
theorem s165a_0 : Ps165a 0 := fun cl b h z k w Q => by kernel_rfl
theorem s165a_1 : Ps165a 1 := fun cl b h z k w Q => by kernel_rfl
theorem s165a_2 : Ps165a 2 := fun cl b h z k w Q => by kernel_rfl
theorem s165a_3 : Ps165a 3 := fun cl b h z k w Q => by kernel_rfl
theorem s165a_4 : Ps165a 4 := fun cl b h z k w Q => by kernel_rfl
theorem s165a_5 : Ps165a 5 := fun cl b h z k w Q => by kernel_rfl
theorem s165a_6 : Ps165a 6 := fun cl b h z k w Q => by kernel_rfl
theorem s165a_7 : Ps165a 7 := fun cl b h z k w Q => by kernel_rfl
theorem s165a_8 : Ps165a 8 := fun cl b h z k w Q => by kernel_rfl
theorem s165a_9 : Ps165a 9 := fun cl b h z k w Q => by kernel_rfl
theorem s165a_10 : Ps165a 10 := fun cl b h z k w Q => by kernel_rfl
theorem s165a_11 : Ps165a 11 := fun cl b h z k w Q => by kernel_rfl
theorem s165a_12 : Ps165a 12 := fun cl b h z k w Q => by kernel_rfl
theorem s165a_13 : Ps165a 13 := fun cl b h z k w Q => by kernel_rfl
theorem s165a_14 : Ps165a 14 := fun cl b h z k w Q => by kernel_rfl
theorem s165a_15 : Ps165a 15 := fun cl b h z k w Q => by kernel_rfl
theorem s165a : ∀ t, t < 16 → Ps165a t := by
  intro t h2
  exact lt_all (P := Ps165a) (n := 16) (⟨⟨⟨⟨⟨⟨⟨⟨⟨⟨⟨⟨⟨⟨⟨⟨trivial, s165a_0⟩, s165a_1⟩, s165a_2⟩, s165a_3⟩, s165a_4⟩, s165a_5⟩, s165a_6⟩, s165a_7⟩, s165a_8⟩, s165a_9⟩, s165a_10⟩, s165a_11⟩, s165a_12⟩, s165a_13⟩, s165a_14⟩, s165a_15⟩) t h2
def Ps165b (t : Nat) : Prop := ∀ (cl : Bool) (b h z k w : Nat → Nat) (Q : Q4), runL ct1 true c165a (mkT M1 (T165a cl b t)) (mkZ MZ (Z165 h z k w)) 7 (outK M1 MZ Q) = Q .normal (T165a cl b (t + 1)) [some (b8 h), some (b8 z), some (b64 k), some ⟨.box 405, .arr 64 .sc, V.set [.idx t] (wV .u32 (R.nextW (w (t - 15)) (w (t - 2)) (w (t - 7)) (w (t - 16)))) (arrW .u32 64 w)⟩] 7
theorem s165b_16 : Ps165b 16 := fun cl b h z k w Q => by kernel_rfl
theorem s165b_17 : Ps165b 17 := fun cl b h z k w Q => by kernel_rfl
theorem s165b_18 : Ps165b 18 := fun cl b h z k w Q => by kernel_rfl
theorem s165b_19 : Ps165b 19 := fun cl b h z k w Q => by kernel_rfl
theorem s165b_20 : Ps165b 20 := fun cl b h z k w Q => by kernel_rfl
theorem s165b_21 : Ps165b 21 := fun cl b h z k w Q => by kernel_rfl
theorem s165b_22 : Ps165b 22 := fun cl b h z k w Q => by kernel_rfl
theorem s165b_23 : Ps165b 23 := fun cl b h z k w Q => by kernel_rfl
theorem s165b_24 : Ps165b 24 := fun cl b h z k w Q => by kernel_rfl
theorem s165b_25 : Ps165b 25 := fun cl b h z k w Q => by kernel_rfl
theorem s165b_26 : Ps165b 26 := fun cl b h z k w Q => by kernel_rfl
theorem s165b_27 : Ps165b 27 := fun cl b h z k w Q => by kernel_rfl
theorem s165b_28 : Ps165b 28 := fun cl b h z k w Q => by kernel_rfl
theorem s165b_29 : Ps165b 29 := fun cl b h z k w Q => by kernel_rfl
theorem s165b_30 : Ps165b 30 := fun cl b h z k w Q => by kernel_rfl
theorem s165b_31 : Ps165b 31 := fun cl b h z k w Q => by kernel_rfl
theorem s165b_32 : Ps165b 32 := fun cl b h z k w Q => by kernel_rfl
theorem s165b_33 : Ps165b 33 := fun cl b h z k w Q => by kernel_rfl
theorem s165b_34 : Ps165b 34 := fun cl b h z k w Q => by kernel_rfl
theorem s165b_35 : Ps165b 35 := fun cl b h z k w Q => by kernel_rfl
theorem s165b_36 : Ps165b 36 := fun cl b h z k w Q => by kernel_rfl
theorem s165b_37 : Ps165b 37 := fun cl b h z k w Q => by kernel_rfl
theorem s165b_38 : Ps165b 38 := fun cl b h z k w Q => by kernel_rfl
theorem s165b_39 : Ps165b 39 := fun cl b h z k w Q => by kernel_rfl
theorem s165b_40 : Ps165b 40 := fun cl b h z k w Q => by kernel_rfl
theorem s165b_41 : Ps165b 41 := fun cl b h z k w Q => by kernel_rfl
theorem s165b_42 : Ps165b 42 := fun cl b h z k w Q => by kernel_rfl
theorem s165b_43 : Ps165b 43 := fun cl b h z k w Q => by kernel_rfl
theorem s165b_44 : Ps165b 44 := fun cl b h z k w Q => by kernel_rfl
theorem s165b_45 : Ps165b 45 := fun cl b h z k w Q => by kernel_rfl
theorem s165b_46 : Ps165b 46 := fun cl b h z k w Q => by kernel_rfl
theorem s165b_47 : Ps165b 47 := fun cl b h z k w Q => by kernel_rfl
theorem s165b_48 : Ps165b 48 := fun cl b h z k w Q => by kernel_rfl
theorem s165b_49 : Ps165b 49 := fun cl b h z k w Q => by kernel_rfl
theorem s165b_50 : Ps165b 50 := fun cl b h z k w Q => by kernel_rfl
theorem s165b_51 : Ps165b 51 := fun cl b h z k w Q => by kernel_rfl
theorem s165b_52 : Ps165b 52 := fun cl b h z k w Q => by kernel_rfl
theorem s165b_53 : Ps165b 53 := fun cl b h z k w Q => by kernel_rfl
theorem s165b_54 : Ps165b 54 := fun cl b h z k w Q => by kernel_rfl
theorem s165b_55 : Ps165b 55 := fun cl b h z k w Q => by kernel_rfl
theorem s165b_56 : Ps165b 56 := fun cl b h z k w Q => by kernel_rfl
theorem s165b_57 : Ps165b 57 := fun cl b h z k w Q => by kernel_rfl
theorem s165b_58 : Ps165b 58 := fun cl b h z k w Q => by kernel_rfl
theorem s165b_59 : Ps165b 59 := fun cl b h z k w Q => by kernel_rfl
theorem s165b_60 : Ps165b 60 := fun cl b h z k w Q => by kernel_rfl
theorem s165b_61 : Ps165b 61 := fun cl b h z k w Q => by kernel_rfl
theorem s165b_62 : Ps165b 62 := fun cl b h z k w Q => by kernel_rfl
theorem s165b_63 : Ps165b 63 := fun cl b h z k w Q => by kernel_rfl
theorem s165b : ∀ t, 16 ≤ t → t < 64 → Ps165b t := by
  intro t h1 h2
  obtain ⟨d, rfl⟩ : ∃ d, t = d + 16 := ⟨t - 16, by omega⟩
  exact lt_all (P := fun d => Ps165b (d + 16)) (n := 48) (⟨⟨⟨⟨⟨⟨⟨⟨⟨⟨⟨⟨⟨⟨⟨⟨⟨⟨⟨⟨⟨⟨⟨⟨⟨⟨⟨⟨⟨⟨⟨⟨⟨⟨⟨⟨⟨⟨⟨⟨⟨⟨⟨⟨⟨⟨⟨⟨trivial, s165b_16⟩, s165b_17⟩, s165b_18⟩, s165b_19⟩, s165b_20⟩, s165b_21⟩, s165b_22⟩, s165b_23⟩, s165b_24⟩, s165b_25⟩, s165b_26⟩, s165b_27⟩, s165b_28⟩, s165b_29⟩, s165b_30⟩, s165b_31⟩, s165b_32⟩, s165b_33⟩, s165b_34⟩, s165b_35⟩, s165b_36⟩, s165b_37⟩, s165b_38⟩, s165b_39⟩, s165b_40⟩, s165b_41⟩, s165b_42⟩, s165b_43⟩, s165b_44⟩, s165b_45⟩, s165b_46⟩, s165b_47⟩, s165b_48⟩, s165b_49⟩, s165b_50⟩, s165b_51⟩, s165b_52⟩, s165b_53⟩, s165b_54⟩, s165b_55⟩, s165b_56⟩, s165b_57⟩, s165b_58⟩, s165b_59⟩, s165b_60⟩, s165b_61⟩, s165b_62⟩, s165b_63⟩) d (by omega)
def Ps165c (t : Nat) : Prop := ∀ (h z k w : Nat → Nat) (s : S.St) (Q : Q4), runL ct1 true c165b (mkT M2 (T165b s t)) (mkZ MZ (Z165 h z k w)) 7 (outK M2 MZ Q) = Q .normal (T165b (R.rnd (k t) (w t) s) (t + 1)) [some (b8 h), some (b8 z), some (b64 k), some (b64 w)] 7
theorem s165c_0 : Ps165c 0 := fun h z k w s Q => by kernel_rfl
theorem s165c_1 : Ps165c 1 := fun h z k w s Q => by kernel_rfl
theorem s165c_2 : Ps165c 2 := fun h z k w s Q => by kernel_rfl
theorem s165c_3 : Ps165c 3 := fun h z k w s Q => by kernel_rfl
theorem s165c_4 : Ps165c 4 := fun h z k w s Q => by kernel_rfl
theorem s165c_5 : Ps165c 5 := fun h z k w s Q => by kernel_rfl
theorem s165c_6 : Ps165c 6 := fun h z k w s Q => by kernel_rfl
theorem s165c_7 : Ps165c 7 := fun h z k w s Q => by kernel_rfl
theorem s165c_8 : Ps165c 8 := fun h z k w s Q => by kernel_rfl
theorem s165c_9 : Ps165c 9 := fun h z k w s Q => by kernel_rfl
theorem s165c_10 : Ps165c 10 := fun h z k w s Q => by kernel_rfl
theorem s165c_11 : Ps165c 11 := fun h z k w s Q => by kernel_rfl
theorem s165c_12 : Ps165c 12 := fun h z k w s Q => by kernel_rfl
theorem s165c_13 : Ps165c 13 := fun h z k w s Q => by kernel_rfl
theorem s165c_14 : Ps165c 14 := fun h z k w s Q => by kernel_rfl
theorem s165c_15 : Ps165c 15 := fun h z k w s Q => by kernel_rfl
theorem s165c_16 : Ps165c 16 := fun h z k w s Q => by kernel_rfl
theorem s165c_17 : Ps165c 17 := fun h z k w s Q => by kernel_rfl
theorem s165c_18 : Ps165c 18 := fun h z k w s Q => by kernel_rfl
theorem s165c_19 : Ps165c 19 := fun h z k w s Q => by kernel_rfl
theorem s165c_20 : Ps165c 20 := fun h z k w s Q => by kernel_rfl
theorem s165c_21 : Ps165c 21 := fun h z k w s Q => by kernel_rfl
theorem s165c_22 : Ps165c 22 := fun h z k w s Q => by kernel_rfl
theorem s165c_23 : Ps165c 23 := fun h z k w s Q => by kernel_rfl
theorem s165c_24 : Ps165c 24 := fun h z k w s Q => by kernel_rfl
theorem s165c_25 : Ps165c 25 := fun h z k w s Q => by kernel_rfl
theorem s165c_26 : Ps165c 26 := fun h z k w s Q => by kernel_rfl
theorem s165c_27 : Ps165c 27 := fun h z k w s Q => by kernel_rfl
theorem s165c_28 : Ps165c 28 := fun h z k w s Q => by kernel_rfl
theorem s165c_29 : Ps165c 29 := fun h z k w s Q => by kernel_rfl
theorem s165c_30 : Ps165c 30 := fun h z k w s Q => by kernel_rfl
theorem s165c_31 : Ps165c 31 := fun h z k w s Q => by kernel_rfl
theorem s165c_32 : Ps165c 32 := fun h z k w s Q => by kernel_rfl
theorem s165c_33 : Ps165c 33 := fun h z k w s Q => by kernel_rfl
theorem s165c_34 : Ps165c 34 := fun h z k w s Q => by kernel_rfl
theorem s165c_35 : Ps165c 35 := fun h z k w s Q => by kernel_rfl
theorem s165c_36 : Ps165c 36 := fun h z k w s Q => by kernel_rfl
theorem s165c_37 : Ps165c 37 := fun h z k w s Q => by kernel_rfl
theorem s165c_38 : Ps165c 38 := fun h z k w s Q => by kernel_rfl
theorem s165c_39 : Ps165c 39 := fun h z k w s Q => by kernel_rfl
theorem s165c_40 : Ps165c 40 := fun h z k w s Q => by kernel_rfl
theorem s165c_41 : Ps165c 41 := fun h z k w s Q => by kernel_rfl
theorem s165c_42 : Ps165c 42 := fun h z k w s Q => by kernel_rfl
theorem s165c_43 : Ps165c 43 := fun h z k w s Q => by kernel_rfl
theorem s165c_44 : Ps165c 44 := fun h z k w s Q => by kernel_rfl
theorem s165c_45 : Ps165c 45 := fun h z k w s Q => by kernel_rfl
theorem s165c_46 : Ps165c 46 := fun h z k w s Q => by kernel_rfl
theorem s165c_47 : Ps165c 47 := fun h z k w s Q => by kernel_rfl
theorem s165c_48 : Ps165c 48 := fun h z k w s Q => by kernel_rfl
theorem s165c_49 : Ps165c 49 := fun h z k w s Q => by kernel_rfl
theorem s165c_50 : Ps165c 50 := fun h z k w s Q => by kernel_rfl
theorem s165c_51 : Ps165c 51 := fun h z k w s Q => by kernel_rfl
theorem s165c_52 : Ps165c 52 := fun h z k w s Q => by kernel_rfl
theorem s165c_53 : Ps165c 53 := fun h z k w s Q => by kernel_rfl
theorem s165c_54 : Ps165c 54 := fun h z k w s Q => by kernel_rfl
theorem s165c_55 : Ps165c 55 := fun h z k w s Q => by kernel_rfl
theorem s165c_56 : Ps165c 56 := fun h z k w s Q => by kernel_rfl
theorem s165c_57 : Ps165c 57 := fun h z k w s Q => by kernel_rfl
theorem s165c_58 : Ps165c 58 := fun h z k w s Q => by kernel_rfl
theorem s165c_59 : Ps165c 59 := fun h z k w s Q => by kernel_rfl
theorem s165c_60 : Ps165c 60 := fun h z k w s Q => by kernel_rfl
theorem s165c_61 : Ps165c 61 := fun h z k w s Q => by kernel_rfl
theorem s165c_62 : Ps165c 62 := fun h z k w s Q => by kernel_rfl
theorem s165c_63 : Ps165c 63 := fun h z k w s Q => by kernel_rfl
theorem s165c : ∀ t, t < 64 → Ps165c t := by
  intro t h2
  exact lt_all (P := Ps165c) (n := 64) (⟨⟨⟨⟨⟨⟨⟨⟨⟨⟨⟨⟨⟨⟨⟨⟨⟨⟨⟨⟨⟨⟨⟨⟨⟨⟨⟨⟨⟨⟨⟨⟨⟨⟨⟨⟨⟨⟨⟨⟨⟨⟨⟨⟨⟨⟨⟨⟨⟨⟨⟨⟨⟨⟨⟨⟨⟨⟨⟨⟨⟨⟨⟨⟨trivial, s165c_0⟩, s165c_1⟩, s165c_2⟩, s165c_3⟩, s165c_4⟩, s165c_5⟩, s165c_6⟩, s165c_7⟩, s165c_8⟩, s165c_9⟩, s165c_10⟩, s165c_11⟩, s165c_12⟩, s165c_13⟩, s165c_14⟩, s165c_15⟩, s165c_16⟩, s165c_17⟩, s165c_18⟩, s165c_19⟩, s165c_20⟩, s165c_21⟩, s165c_22⟩, s165c_23⟩, s165c_24⟩, s165c_25⟩, s165c_26⟩, s165c_27⟩, s165c_28⟩, s165c_29⟩, s165c_30⟩, s165c_31⟩, s165c_32⟩, s165c_33⟩, s165c_34⟩, s165c_35⟩, s165c_36⟩, s165c_37⟩, s165c_38⟩, s165c_39⟩, s165c_40⟩, s165c_41⟩, s165c_42⟩, s165c_43⟩, s165c_44⟩, s165c_45⟩, s165c_46⟩, s165c_47⟩, s165c_48⟩, s165c_49⟩, s165c_50⟩, s165c_51⟩, s165c_52⟩, s165c_53⟩, s165c_54⟩, s165c_55⟩, s165c_56⟩, s165c_57⟩, s165c_58⟩, s165c_59⟩, s165c_60⟩, s165c_61⟩, s165c_62⟩, s165c_63⟩) t h2
theorem s165_0 (cl : Bool) (h b : Nat → Nat) (Q : Q4) : runL ct1 true (cFst c165) (mkT [0, 1] [arrW .u32 8 h, roB cl b]) .e 0 (outK [1, 2, 4] [0, 1] Q) = Q .normal [roB cl b, p8 0, p8 1] [some (b8 h), some (b8 fun _ => 0)] 2 := by kernel_rfl
theorem s165_1 (cl : Bool) (h b z : Nat → Nat) (Q : Q4) : runL ct1 true (cFst (cSnd c165)) (mkT [1, 2, 4] [roB cl b, p8 0, p8 1]) (mkZ [0, 1] [b8 h, b8 z]) 2 (outK [1, 2, 4, 5] [0, 1, 4] Q) = Q .normal [roB cl b, p8 0, p8 1, p64 4] [some (b8 h), some (b8 z), some ⟨.box 405, .arr 64 .sc, kT⟩] 6 := by kernel_rfl
theorem s165_2 (cl : Bool) (h b z k : Nat → Nat) (Q : Q4) : runL ct1 true (cFst (cSnd (cSnd c165))) (mkT [1, 2, 4, 5] [roB cl b, p8 0, p8 1, p64 4]) (mkZ [0, 1, 4] [b8 h, b8 z, b64 k]) 6 (outK [1, 2, 4, 5, 7] MZ Q) = Q .normal [roB cl b, p8 0, p8 1, p64 4, p64 6] [some (b8 h), some (b8 z), some (b64 k), some (b64 fun _ => 0)] 7 := by kernel_rfl
theorem s165_3 (cl : Bool) (h b z k w : Nat → Nat) (Q : Q4) : runL ct1 true (cFst (cFst r165)) (mkT [1, 2, 4, 5, 7] [roB cl b, p8 0, p8 1, p64 4, p64 6]) (mkZ MZ (Z165 h z k w)) 7 (outK M1 MZ Q) = Q .normal (T165a cl b 0) [some (b8 h), some (b8 z), some (b64 k), some (b64 w)] 7 := by kernel_rfl
theorem s165a_out (cl : Bool) (h b z k w : Nat → Nat) (Q : Q4) : runL ct1 true c165a (mkT M1 (T165a cl b 64)) (mkZ MZ (Z165 h z k w)) 7 (outK [2, 4, 5, 7] MZ Q) = Q (.exit 0) [p8 0, p8 1, p64 4, p64 6] [some (b8 h), some (b8 z), some (b64 k), some (b64 w)] 7 := by kernel_rfl
theorem s165_4 (h z k w : Nat → Nat) (Q : Q4) : runL ct1 true (cFst (cSnd r165)) (mkT [2, 4, 5, 7] [p8 0, p8 1, p64 4, p64 6]) (mkZ MZ (Z165 h z k w)) 7 (outK [2, 4, 5, 7, 13, 14, 15, 16, 17, 18, 19, 20] MZ Q) = Q .normal [p8 0, p8 1, p64 4, p64 6, wV .u32 (h 0), wV .u32 (h 1), wV .u32 (h 2), wV .u32 (h 3), wV .u32 (h 4), wV .u32 (h 5), wV .u32 (h 6), wV .u32 (h 7)] [some (b8 h), some (b8 z), some (b64 k), some (b64 w)] 7 := by kernel_rfl
theorem s165_5 (h z k w : Nat → Nat) (s : S.St) (Q : Q4) : runL ct1 true (cFst (cFst (cSnd (cSnd r165)))) (mkT [2, 4, 5, 7, 13, 14, 15, 16, 17, 18, 19, 20] [p8 0, p8 1, p64 4, p64 6, wV .u32 s.a, wV .u32 s.b, wV .u32 s.c, wV .u32 s.d, wV .u32 s.e, wV .u32 s.f, wV .u32 s.g, wV .u32 s.h]) (mkZ MZ (Z165 h z k w)) 7 (outK M2 MZ Q) = Q .normal (T165b s 0) [some (b8 h), some (b8 z), some (b64 k), some (b64 w)] 7 := by kernel_rfl
theorem s165c_out (h z k w : Nat → Nat) (s : S.St) (Q : Q4) : runL ct1 true c165b (mkT M2 (T165b s 64)) (mkZ MZ (Z165 h z k w)) 7 (outK M2 [0, 1] Q) = Q (.exit 2) (T165b s 64) [some (b8 h), some (b8 z)] 7 := by kernel_rfl
theorem s165_6 (h z : Nat → Nat) (s : S.St) (Q : V → Prop) : runL ct1 true (cSnd (cSnd (cSnd r165))) (mkT M2 (T165b s 64)) (mkZ [0, 1] [b8 h, b8 z]) 7 (retK Tryz.prog (resOf 261) (valK Q)) = Q (setR8 (S.add32 (h 0) s.a) (S.add32 (h 1) s.b) (S.add32 (h 2) s.c) (S.add32 (h 3) s.d) (S.add32 (h 4) s.e) (S.add32 (h 5) s.f) (S.add32 (h 6) s.g) (S.add32 (h 7) s.h)) := by kernel_rfl
end
end Go.Y
set_option linter.unusedVariables false
set_option linter.unusedSimpArgs false
set_option maxRecDepth 100000
namespace Go.Y
open Go.Ab Go.RowKit Go.Proofs
noncomputable section
def k165 : CSpec where
  pre := fun l => match l with
    | [.arr 8 f, .ro _ _ .sc 64 g] => allW .u32 8 f && allW .u8 64 g
    | _ => false
  res := fun l => match l with
    | [.arr 8 f, .ro _ _ .sc 64 g] => arrW .u32 8 (R.comp (fun i => natOf (f i)) fun i => natOf (g i))
    | _ => .unk
  fresh := true
theorem k165_pre {args : List V} (h : k165.pre args = true) : ∃ f u cl g, args = [.arr 8 f, .ro u cl .sc 64 g] ∧ allW .u32 8 f = true ∧ allW .u8 64 g = true := by
  simp only [k165] at h
  split at h
  · rw [Bool.and_eq_true] at h; exact ⟨_, _, _, _, rfl, h.1, h.2⟩
  · cases h
theorem borrow_ro {u cl : Bool} {g : Nat → V} (h : allW .u8 64 g = true) : (borrow (.ro u cl .sc 64 g)).le (roB cl fun i => natOf (g i)) ∧ ∀ m, (borrow (.ro u cl .sc 64 g)).bel m := by
  have key : ∀ i, i < 64 → borrow (g i) = wV .u8 (natOf (g i)) := fun i hi => by
    rw [isW_eq (List.all_eq_true.1 h i (List.mem_range.2 hi))]; rfl
  refine ⟨⟨rfl, fun h => h, rfl, rfl, fun i hi => ?_⟩, fun m => trivial⟩
  show (borrow (g i)).le (wV .u8 (natOf (g i)))
  rw [key i hi]; exact V.le_refl _
theorem kT_all : allW .u32 64 (fun i => kT.step (.idx i)) = true := by kernel_rfl
theorem kT_num : ((List.range 64).all fun i => Nat.beq (natOf (kT.step (.idx i))) (constL.getD i 0)) = true := by kernel_rfl
theorem kT_eq : kT = .arr 64 fun i => kT.step (.idx i) := by kernel_rfl
theorem kT_le : kT.le (arrW .u32 64 fun i => constL.getD i 0) := by
  have h1 := allW_le kT_all
  rw [← kT_eq] at h1
  have h2 : (arrW .u32 64 fun i => natOf (kT.step (.idx i))).le (arrW .u32 64 fun i => constL.getD i 0) := arrW_congr fun i hi => Nat.eq_of_beq_eq_true (List.all_eq_true.1 kT_num i (List.mem_range.2 hi))
  rw [kT_eq]
  refine ⟨rfl, fun i hi => ?_⟩
  have h3 : kT.step (.idx i) = wV .u32 (natOf (kT.step (.idx i))) := isW_eq (List.all_eq_true.1 kT_all i (List.mem_range.2 hi))
  show (kT.step (.idx i)).le (wV .u32 (constL.getD i 0))
  rw [h3, Nat.eq_of_beq_eq_true (List.all_eq_true.1 kT_num i (List.mem_range.2 hi))]
  exact V.le_refl _
theorem kT_bel (m : Nat) : kT.bel m := by
  rw [kT_eq]
  exact allW_bel kT_all
theorem wk_roB {n : Nat} {cl : Bool} {b : Nat → Nat} : wkV n (roB cl b) (roB cl b) := ⟨V.le_refl _, trivial⟩
theorem wk_T165a (cl : Bool) (b : Nat → Nat) (t : Nat) : wkVs 7 (T165a cl b t) (T165a cl b t) := ⟨wk_roB, wk_p8 (by decide), wk_p8 (by decide), wk_p64 (by decide), wk_p64 (by decide), wk_wV, trivial⟩
theorem wk_T165b (s : S.St) (t : Nat) : wkVs 7 (T165b s t) (T165b s t) := ⟨wk_p8 (by decide), wk_p8 (by decide), wk_p64 (by decide), wk_p64 (by decide), wk_wV, wk_wV, wk_wV, wk_wV, wk_wV, wk_wV, wk_wV, wk_wV, wk_wV, trivial⟩
theorem wk_Z165 (h z k w : Nat → Nat) : wkBs 7 MZ [some (b8 h), some (b8 z), some (b64 k), some (b64 w)] (Z165 h z k w) := ⟨⟨by decide, wk_b8⟩, ⟨by decide, wk_b8⟩, ⟨by decide, wk_b64⟩, ⟨by decide, wk_b64⟩, trivial⟩
def kF : Nat → Nat := fun i => constL.getD i 0
def zF : Nat → Nat := fun _ => 0
def step165 (b w : Nat → Nat) (t : Nat) : Nat := bif decide (t < 16) then R.load32 b t else R.nextW (w (t - 15)) (w (t - 2)) (w (t - 7)) (w (t - 16))
theorem wS_step (b : Nat → Nat) (t : Nat) : R.wS b (t + 1) = fun j => bif j == t then step165 b (R.wS b t) t else R.wS b t j := by
  by_cases h : t < 16
  · rw [R.wS_lo b t h]
    unfold step165
    rw [show decide (t < 16) = true by simpa using h]
    rfl
  · rw [R.wS_hi b t (by omega)]
    unfold step165
    rw [show decide (t < 16) = false by simpa using h]
    rfl
theorem s165ab (cl : Bool) (b : Nat → Nat) (t : Nat) (ht : t < 64) (h z k w : Nat → Nat) (Q : Q4) : runL ct1 true c165a (mkT M1 (T165a cl b t)) (mkZ MZ (Z165 h z k w)) 7 (outK M1 MZ Q) = Q .normal (T165a cl b (t + 1)) [some (b8 h), some (b8 z), some (b64 k), some ⟨.box 405, .arr 64 .sc, V.set [.idx t] (wV .u32 (step165 b w t)) (arrW .u32 64 w)⟩] 7 := by
  by_cases h16 : t < 16
  · have := s165a t h16 cl b h z k w Q
    unfold step165
    rw [show decide (t < 16) = true by simpa using h16]
    exact this
  · have := s165b t (by omega) ht cl b h z k w Q
    unfold step165
    rw [show decide (t < 16) = false by simpa using h16]
    exact this

theorem setR8_arr (h : Nat → Nat) (x : S.St) : (setR8 (S.add32 (h 0) x.a) (S.add32 (h 1) x.b) (S.add32 (h 2) x.c) (S.add32 (h 3) x.d) (S.add32 (h 4) x.e) (S.add32 (h 5) x.f) (S.add32 (h 6) x.g) (S.add32 (h 7) x.h)).le (arrW .u32 8 fun j => S.add32 (h j) (x.get j)) := by
  have gen : ∀ (op : Nat → Nat → Nat), (setR8 (op (h 0) x.a) (op (h 1) x.b) (op (h 2) x.c) (op (h 3) x.d) (op (h 4) x.e) (op (h 5) x.f) (op (h 6) x.g) (op (h 7) x.h)).le (arrW .u32 8 fun j => op (h j) (x.get j)) := by
    intro op
    refine ⟨rfl, fun i hi => ?_⟩
    match i, hi with
    | 0, _ => rfl
    | 1, _ => rfl
    | 2, _ => rfl
    | 3, _ => rfl
    | 4, _ => rfl
    | 5, _ => rfl
    | 6, _ => rfl
    | 7, _ => rfl
  exact gen S.add32
theorem setR8_own (a b c d e f g h : Nat) : (setR8 a b c d e f g h).own := by
  intro i hi
  match i, hi with
  | 0, _ => trivial
  | 1, _ => trivial
  | 2, _ => trivial
  | 3, _ => trivial
  | 4, _ => trivial
  | 5, _ => trivial
  | 6, _ => trivial
  | 7, _ => trivial
theorem k165_ok : CSoundG Tryz.prog 261 k165 := by
  refine csound_of env1 (f := 261) (fn := fnOf 261) (c := codeOf 261) (by kernel_rfl) (by kernel_rfl) ?_
  intro B N args hp hN
  obtain ⟨f, u, cl, g, rfl, hf, hg⟩ := k165_pre hp
  generalize hhd : (fun i => natOf (f i)) = h
  generalize hbd : (fun i => natOf (g i)) = b
  have hb1 := borrow_allW (k := .u32) hf
  have hb2 := borrow_ro (u := u) (cl := cl) hg
  rw [hhd] at hb1
  rw [hbd] at hb2
  refine WR.weak env1 (tm1 := mkT [0, 1] [arrW .u32 8 h, roB cl b]) (zm1 := .e) (WkT_mk (lt := [0, 1]) (vs := [arrW .u32 8 h, roB cl b]) ⟨⟨hb1.1, hb1.2 _⟩, ⟨hb2.1, hb2.2 _⟩, trivial⟩) (wkz_e _ _) (kb_e _) ?_
  refine WR.seq' (by kernel_rfl) ?_
  refine WR.then env1 hN (by kernel_rfl) (kb_e _) [1, 2, 4] [0, 1] [roB cl b, p8 0, p8 1] [b8 h, b8 zF] (s165_0 cl h b) ⟨wk_roB, wk_p8 (by decide), wk_p8 (by decide), trivial⟩ ⟨⟨by decide, wk_b8⟩, ⟨by decide, wk_b8⟩, trivial⟩ fun hkb => ?_
  refine WR.seq' (by kernel_rfl) ?_
  refine WR.then env1 hN (by kernel_rfl) hkb [1, 2, 4, 5] [0, 1, 4] [roB cl b, p8 0, p8 1, p64 4] [b8 h, b8 zF, b64 kF] (s165_1 cl h b _) ⟨wk_roB, wk_p8 (by decide), wk_p8 (by decide), wk_p64 (by decide), trivial⟩ ⟨⟨by decide, wk_b8⟩, ⟨by decide, wk_b8⟩, ⟨by decide, wkB_box kT_le (kT_bel _)⟩, trivial⟩ fun hkb => ?_
  refine WR.seq' (by kernel_rfl) ?_
  refine WR.then env1 hN (by kernel_rfl) hkb [1, 2, 4, 5, 7] MZ [roB cl b, p8 0, p8 1, p64 4, p64 6] (Z165 h zF kF (R.wS b 0)) (s165_2 cl h b _ _) ⟨wk_roB, wk_p8 (by decide), wk_p8 (by decide), wk_p64 (by decide), wk_p64 (by decide), trivial⟩ (wk_Z165 _ _ _ _) fun hkb => ?_
  refine WR.seq' (by kernel_rfl) ?_
  -- the schedule
  refine WR.seq' (by kernel_rfl) ?_
  refine WR.then env1 hN (by kernel_rfl) hkb M1 MZ (T165a cl b 0) (Z165 h zF kF (R.wS b 0)) (s165_3 cl h b _ _ _) (wk_T165a cl b 0) (wk_Z165 _ _ _ _) fun hkb => ?_
  refine WR.block' (i := 0) (by kernel_rfl) ?_
  refine WR.loopN env1 hN (by kernel_rfl) hkb (by kernel_rfl) 7 64 M1 MZ (T165a cl b) (fun t => Z165 h zF kF (R.wS b t)) (wk_T165a cl b 0) (wk_Z165 _ _ _ _)
    (fun t => T165a cl b (t + 1)) (fun t => [some (b8 h), some (b8 zF), some (b64 kF), some ⟨.box 405, .arr 64 .sc, V.set [.idx t] (wV .u32 (step165 b (R.wS b t) t)) (arrW .u32 64 (R.wS b t))⟩]) (fun _ => 7)
    (fun t ht => ⟨s165ab cl b t ht h zF kF _, Nat.le_refl _, wk_T165a cl b (t + 1), ⟨by decide, wk_b8⟩, ⟨by decide, wk_b8⟩, ⟨by decide, wk_b64⟩, ⟨by decide, wkB_box (by rw [wS_step]; exact arrW_set) arrW_set_bel⟩, trivial⟩)
    [2, 4, 5, 7] MZ (e := .exit 0) (by intro h; cases h) (s165a_out cl h b _ _ _) (Nat.le_refl _) fun tm' zm' h1 h2 hk => ?_
  refine exit_then env1 [2, 4, 5, 7] MZ [p8 0, p8 1, p64 4, p64 6] (Z165 h zF kF (R.sched b)) tm' zm' h1 h2 hk ⟨wk_p8 (by decide), wk_p8 (by decide), wk_p64 (by decide), wk_p64 (by decide), trivial⟩ ⟨⟨by decide, wk_b8⟩, ⟨by decide, wk_b8⟩, ⟨by decide, wk_b64⟩, ⟨by decide, wkB_box (arrW_congr fun i hi => R.wS_sched b i hi) (arrW_bel _ _ _ _)⟩, trivial⟩ fun hkb => ?_
  refine WR.seq' (by kernel_rfl) ?_
  refine WR.then env1 hN (by kernel_rfl) hkb [2, 4, 5, 7, 13, 14, 15, 16, 17, 18, 19, 20] MZ [p8 0, p8 1, p64 4, p64 6, wV .u32 (S.stOf h).a, wV .u32 (S.stOf h).b, wV .u32 (S.stOf h).c, wV .u32 (S.stOf h).d, wV .u32 (S.stOf h).e, wV .u32 (S.stOf h).f, wV .u32 (S.stOf h).g, wV .u32 (S.stOf h).h] (Z165 h zF kF (R.sched b)) (s165_4 h _ _ _)
    ⟨wk_p8 (by decide), wk_p8 (by decide), wk_p64 (by decide), wk_p64 (by decide), wk_wV, wk_wV, wk_wV, wk_wV, wk_wV, wk_wV, wk_wV, wk_wV, trivial⟩ (wk_Z165 _ _ _ _) fun hkb => ?_
  refine WR.seq' (by kernel_rfl) ?_
  -- the rounds
  refine WR.seq' (by kernel_rfl) ?_
  refine WR.then env1 hN (by kernel_rfl) hkb M2 MZ (T165b (R.rounds (R.sched b) (S.stOf h) 0) 0) (Z165 h zF kF (R.sched b)) (s165_5 h _ _ _ (S.stOf h)) (wk_T165b _ 0) (wk_Z165 _ _ _ _) fun hkb => ?_
  refine WR.block' (i := 2) (by kernel_rfl) ?_
  refine WR.loopN env1 hN (by kernel_rfl) hkb (by kernel_rfl) 7 64 M2 MZ (fun t => T165b (R.rounds (R.sched b) (S.stOf h) t) t) (fun t => Z165 h zF kF (R.sched b)) (wk_T165b _ 0) (wk_Z165 _ _ _ _)
    (fun t => T165b (R.rnd (kF t) (R.sched b t) (R.rounds (R.sched b) (S.stOf h) t)) (t + 1)) (fun t => [some (b8 h), some (b8 zF), some (b64 kF), some (b64 (R.sched b))]) (fun _ => 7)
    (fun t ht => ⟨s165c t ht h zF kF _ _, Nat.le_refl _, wk_T165b _ (t + 1), wk_Z165 _ _ _ _⟩)
    M2 [0, 1] (e := .exit 2) (by intro h; cases h) (s165c_out h _ _ _ _) (Nat.le_refl _) fun tm' zm' h1 h2 hk => ?_
  refine exit_then env1 M2 [0, 1] (T165b (R.rounds (R.sched b) (S.stOf h) 64) 64) [b8 h, b8 zF] tm' zm' h1 h2 hk (wk_T165b _ 64) ⟨⟨by decide, wk_b8⟩, ⟨by decide, wk_b8⟩, trivial⟩ fun hkb => ?_
  refine WR.run env1 (u := true) (n := 1000000) ?_ (cOk_mono hN (by kernel_rfl)) hkb
  refine Eq.mpr (s165_6 h zF (R.rounds (R.sched b) (S.stOf h) 64) (retV k165 [.arr 8 f, .ro u cl .sc 64 g])) ?_
  refine ⟨?_, fun _ => setR8_own _ _ _ _ _ _ _ _⟩
  have hle := setR8_arr h (R.rounds (R.sched b) (S.stOf h) 64)
  rw [show (k165.res [.arr 8 f, .ro u cl .sc 64 g]) = arrW .u32 8 (R.comp (fun i => natOf (f i)) fun i => natOf (g i)) from rfl, hhd, hbd]
  exact hle
end
end Go.Y
