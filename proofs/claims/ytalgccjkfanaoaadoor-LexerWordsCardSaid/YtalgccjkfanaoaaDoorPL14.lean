-- Written by a program of this session (handprint.py) for this claim.
import Derived.Test.YtalgccjkfanaoaaDoorPL0
import Derived.Test.YtalgccjkfanaoaaDoorPL1
import Derived.Test.YtalgccjkfanaoaaDoorPL12
import Derived.Test.YtalgccjkfanaoaaDoorPL13
import Derived.Test.YtalgccjkfanaoaaDoorLexC
import Derived.Test.YtalgccjkfanaoaaDoorLexH
namespace Go.Proofs.YtalgccjkfanaoaaDoor.PL
open Go.RowKit Go.Proofs.YtalgccjkfanaoaaDoorW.PrintWords Go.Proofs.YtalgccjkfanaoaaDoorW.PrintLast Go.Proofs.YtalgccjkfanaoaaDoorW.PrintMore
attribute [local go_sem] max2_int min2_int max_two min_two max_three min_three max_four min_four   -- for this text's walks alone
set_option linter.unusedVariables false
set_option linter.unusedSimpArgs false

attribute [local go_sem high] eqA30
/-! ### customhouselaw07_LexerWords: function 10 -/
mutual
def customhouselaw07_LexerWords.j0 : Nat → ByteArray → Int → Int → ByteArray → Bool → Bool → Option (Bool)
  | 0, _, _, _, _, _, _ => none
  | k + 1, x0, x1, x2, x3, x9, x26 => if x26 = true then (some x9) else (customhouselaw07_LexerWords.l0 k x0 x1 x2 x3 x9 0)
def customhouselaw07_LexerWords.l0 : Nat → ByteArray → Int → Int → ByteArray → Bool → Int → Option (Bool)
  | 0, _, _, _, _, _, _ => none
  | k + 1, x0, x1, x2, x3, x9, x10 => if x10 < (x3.size : Int) then (if 0 ≤ x10 then (if (bt x3 x10) = 34 then (some x9) else (if (bt x3 x10) = 10 then (some x9) else (customhouselaw07_LexerWords.l0 k x0 x1 x2 x3 x9 (wrap64 (x10 + 1))))) else (none)) else ((customhouseref07_Decimal.f k (wrap64 (Int.tmod x1 10000000000000))).bind fun t233 => (if 0 ≤ (Int.tmod (wrap64 (x2)) 15) then (if (Int.tmod (wrap64 (x2)) 15) ≤ (wrap64 ((Int.tmod (wrap64 (x2)) 15) + 1)) then (if (wrap64 ((Int.tmod (wrap64 (x2)) 15) + 1)) ≤ 15 then (if x0.size + ((⟨#[61, 59, 60, 62, 40, 41, 123, 125, 91, 93, 44, 46, 58, 43, 45]⟩ : ByteArray).extract ((Int.tmod (wrap64 (x2)) 15) : Int).toNat ((wrap64 ((Int.tmod (wrap64 (x2)) 15) + 1)) : Int).toNat).size ≤ 9223372036854775807 then (if (x0 ++ ((⟨#[61, 59, 60, 62, 40, 41, 123, 125, 91, 93, 44, 46, 58, 43, 45]⟩ : ByteArray).extract ((Int.tmod (wrap64 (x2)) 15) : Int).toNat ((wrap64 ((Int.tmod (wrap64 (x2)) 15) + 1)) : Int).toNat)).size + t233.size ≤ 9223372036854775807 then (if ((x0 ++ ((⟨#[61, 59, 60, 62, 40, 41, 123, 125, 91, 93, 44, 46, 58, 43, 45]⟩ : ByteArray).extract ((Int.tmod (wrap64 (x2)) 15) : Int).toNat ((wrap64 ((Int.tmod (wrap64 (x2)) 15) + 1)) : Int).toNat)) ++ t233).size + 1 ≤ 9223372036854775807 then (if (((x0 ++ ((⟨#[61, 59, 60, 62, 40, 41, 123, 125, 91, 93, 44, 46, 58, 43, 45]⟩ : ByteArray).extract ((Int.tmod (wrap64 (x2)) 15) : Int).toNat ((wrap64 ((Int.tmod (wrap64 (x2)) 15) + 1)) : Int).toNat)) ++ t233) ++ (⟨#[34]⟩ : ByteArray)).size + x3.size ≤ 9223372036854775807 then (if ((((x0 ++ ((⟨#[61, 59, 60, 62, 40, 41, 123, 125, 91, 93, 44, 46, 58, 43, 45]⟩ : ByteArray).extract ((Int.tmod (wrap64 (x2)) 15) : Int).toNat ((wrap64 ((Int.tmod (wrap64 (x2)) 15) + 1)) : Int).toNat)) ++ t233) ++ (⟨#[34]⟩ : ByteArray)) ++ x3).size + 1 ≤ 9223372036854775807 then ((lexer_Lex.f (((((x0 ++ ((⟨#[61, 59, 60, 62, 40, 41, 123, 125, 91, 93, 44, 46, 58, 43, 45]⟩ : ByteArray).extract ((Int.tmod (wrap64 (x2)) 15) : Int).toNat ((wrap64 ((Int.tmod (wrap64 (x2)) 15) + 1)) : Int).toNat)) ++ t233) ++ (⟨#[34]⟩ : ByteArray)) ++ x3) ++ (⟨#[34]⟩ : ByteArray))).bind fun bt234 => (if bt234.2.1 = 0 then (if (bt234.1.length : Int) = 4 then (if 0 < (bt234.1.length : Int) then (if (((rd_T30 bt234.1 0).f0) == 1 && (((rd_T30 bt234.1 0).f1) == 0 && (((rd_T30 bt234.1 0).f2) == 0 && ((((rd_T30 bt234.1 0).f3).toList) == x0.toList)))) = true then (if 1 < (bt234.1.length : Int) then (if x9 = true then (if (((rd_T30 bt234.1 1).f0) == 4 && (((rd_T30 bt234.1 1).f1) == (x0.size : Int) && (((rd_T30 bt234.1 1).f2) == 0 && ((((rd_T30 bt234.1 1).f3).toList) == (((⟨#[61, 59, 60, 62, 40, 41, 123, 125, 91, 93, 44, 46, 58, 43, 45]⟩ : ByteArray).extract ((Int.tmod (wrap64 (x2)) 15) : Int).toNat ((wrap64 ((Int.tmod (wrap64 (x2)) 15) + 1)) : Int).toNat).toList))))) = true then (if 2 < (bt234.1.length : Int) then (if (((rd_T30 bt234.1 2).f0) == 2 && (((rd_T30 bt234.1 2).f1) == (wrap64 ((x0.size : Int) + 1)) && (((rd_T30 bt234.1 2).f2) == (wrap64 (Int.tmod x1 10000000000000)) && ((((rd_T30 bt234.1 2).f3).toList) == t233.toList)))) = true then (if 3 < (bt234.1.length : Int) then (some (((rd_T30 bt234.1 3).f0) == 3 && (((rd_T30 bt234.1 3).f1) == (wrap64 ((wrap64 ((x0.size : Int) + 1)) + (t233.size : Int))) && (((rd_T30 bt234.1 3).f2) == 0 && ((((rd_T30 bt234.1 3).f3).toList) == x3.toList))))) else (none)) else (some false)) else (none)) else (some false)) else (some false)) else (none)) else (if x9 = true then (some false) else (some false))) else (none)) else (some false)) else (some false))) else (none)) else (none)) else (none)) else (none)) else (none)) else (none)) else (none)) else (none)))
end
def customhouselaw07_LexerWords.f (k : Nat) (a0 : ByteArray) (a1 : Int) (a2 : Int) (a3 : ByteArray) : Option (Bool) := (customhouselaw07_head.f).bind fun t231 => ((customhouseref07_Name.f k a0).bind fun t232 => (if t232 = true then (customhouselaw07_LexerWords.j0 k a0 a1 a2 a3 t231 (decide ((a3.size : Int) > 400))) else (customhouselaw07_LexerWords.j0 k a0 a1 a2 a3 t231 true)))
theorem customhouselaw07_LexerWords.mono_l : ∀ k, (∀ y0 y1 y2 y3 y4 y5, LeO (customhouselaw07_LexerWords.j0 k y0 y1 y2 y3 y4 y5) (customhouselaw07_LexerWords.j0 (k + 1) y0 y1 y2 y3 y4 y5)) ∧ (∀ y0 y1 y2 y3 y4 y5, LeO (customhouselaw07_LexerWords.l0 k y0 y1 y2 y3 y4 y5) (customhouselaw07_LexerWords.l0 (k + 1) y0 y1 y2 y3 y4 y5))
  | 0 => ⟨fun _ _ _ _ _ _ r h => by simp [customhouselaw07_LexerWords.j0] at h, fun _ _ _ _ _ _ r h => by simp [customhouselaw07_LexerWords.l0] at h⟩
  | k + 1 => by
    obtain ⟨ih0, ih1⟩ := customhouselaw07_LexerWords.mono_l k
    refine ⟨?_, ?_⟩
    · intro y0 y1 y2 y3 y4 y5
      unfold customhouselaw07_LexerWords.j0
      repeat' first
      | (with_reducible exact ih0 _ _ _ _ _ _)
      | (with_reducible exact ih1 _ _ _ _ _ _)
      | (with_reducible exact customhouseref07_Decimal.mono _ _)
      | (with_reducible exact customhouseref07_Name.mono _ _)
      | (with_reducible exact LeO.refl _)
      | (with_reducible exact LeO.none _)
      | (with_reducible refine LeO.ite ?_ ?_)
      | (with_reducible refine LeO.bind ?_ (fun _ => ?_))
      | exact ih0 _ _ _ _ _ _
      | exact ih1 _ _ _ _ _ _
      | exact customhouseref07_Decimal.mono _ _
      | exact customhouseref07_Name.mono _ _
      | exact LeO.none _
      | refine LeO.ite ?_ ?_
      | refine LeO.bind ?_ (fun _ => ?_)
    · intro y0 y1 y2 y3 y4 y5
      unfold customhouselaw07_LexerWords.l0
      repeat' first
      | (with_reducible exact ih0 _ _ _ _ _ _)
      | (with_reducible exact ih1 _ _ _ _ _ _)
      | (with_reducible exact customhouseref07_Decimal.mono _ _)
      | (with_reducible exact customhouseref07_Name.mono _ _)
      | (with_reducible exact LeO.refl _)
      | (with_reducible exact LeO.none _)
      | (with_reducible refine LeO.ite ?_ ?_)
      | (with_reducible refine LeO.bind ?_ (fun _ => ?_))
      | exact ih0 _ _ _ _ _ _
      | exact ih1 _ _ _ _ _ _
      | exact customhouseref07_Decimal.mono _ _
      | exact customhouseref07_Name.mono _ _
      | exact LeO.none _
      | refine LeO.ite ?_ ?_
      | refine LeO.bind ?_ (fun _ => ?_)
theorem customhouselaw07_LexerWords.mono : ∀ a0 a1 a2 a3 k, LeO (customhouselaw07_LexerWords.f k a0 a1 a2 a3) (customhouselaw07_LexerWords.f (k + 1) a0 a1 a2 a3) := by
  intro a0 a1 a2 a3 k
  obtain ⟨ih0, ih1⟩ := customhouselaw07_LexerWords.mono_l k
  unfold customhouselaw07_LexerWords.f
  repeat' first
      | (with_reducible exact ih0 _ _ _ _ _ _)
      | (with_reducible exact ih1 _ _ _ _ _ _)
      | (with_reducible exact customhouseref07_Decimal.mono _ _)
      | (with_reducible exact customhouseref07_Name.mono _ _)
      | (with_reducible exact LeO.refl _)
      | (with_reducible exact LeO.none _)
      | (with_reducible refine LeO.ite ?_ ?_)
      | (with_reducible refine LeO.bind ?_ (fun _ => ?_))
      | exact ih0 _ _ _ _ _ _
      | exact ih1 _ _ _ _ _ _
      | exact customhouseref07_Decimal.mono _ _
      | exact customhouseref07_Name.mono _ _
      | exact LeO.none _
      | refine LeO.ite ?_ ?_
      | refine LeO.bind ?_ (fun _ => ?_)
set_option maxHeartbeats 8000000 in
set_option maxRecDepth 100000 in
theorem customhouselaw07_LexerWords.calls (k : Nat) (a0 : ByteArray) (a1 : Int) (a2 : Int) (a3 : ByteArray) (r : Bool) (w : World) (h : customhouselaw07_LexerWords.f k a0 a1 a2 a3 = some r) :
    Calls Tryd.prog 10 #[.string a0, .int .u64 a1, .int .u8 a2, .string a3] w fun e w' => e = .returned (.bool r) ∧ Below w.heap.size w w' := by
  have hu30 := Tryd.underlying30
  have HB := Aside0.mk (Below.refl w.heap.size w)
  have H : ((customhouselaw07_head.f).bind fun t231 => ((customhouseref07_Name.f k a0).bind fun t232 => (if t232 = true then (customhouselaw07_LexerWords.j0 k a0 a1 a2 a3 t231 (decide ((a3.size : Int) > 400))) else (customhouselaw07_LexerWords.j0 k a0 a1 a2 a3 t231 true)))) = some r := h
  clear h
  replace H := Option.bind_eq_some_iff.mp H
  obtain ⟨t231, A50, H⟩ := H
  replace H : ((customhouseref07_Name.f k a0).bind fun t232 => (if t232 = true then (customhouselaw07_LexerWords.j0 k a0 a1 a2 a3 t231 (decide ((a3.size : Int) > 400))) else (customhouselaw07_LexerWords.j0 k a0 a1 a2 a3 t231 true))) = some r := H
  have A5 := Aside0.mk A50
  clear A50
  have HC6 := Aside0.mk H
  clear H
  go_enter Tryd.func10, Tryd.ntmps10
  go_upto_region 2 with (first | ((with_reducible refine gate_callee (f := 11) rfl ?_); refine goesL_ (some 18) rfl rfl Tryd.func11 (by kernel_rfl) rfl #[] rfl (by (try simp only [List.map_toArray, List.map_cons, List.map_nil]); first | done | rfl | (simp only [List.length_drop, List.length_take]; rfl)) ?_; (with_reducible refine (customhouselaw07_head.calls  t231 _ A5.out).mono ?_); rintro e w7 ⟨rfl, hb⟩; refine ⟨_, rfl, ?_⟩; have n0_ := Aside0.mk (below_step (by repeat (first | (with_reducible first | exact HB.out | apply below_alloc | apply pw_below_drewN | apply below_drew1) | exact HB.out)) hb); clear HB; have HB := n0_; clear n0_; (try clear hb); (try clear hb2); (try clear hk); (try clear hi)))
  (try simp only [Act.put, List.setIfInBounds_toArray, List.set_cons_zero, List.set_cons_succ])
  go_cut [26] (fun v26 wc => ∃ (kq : Nat) (x26_5 : Bool), v26 = .bool x26_5 ∧ Aside0 (customhouselaw07_LexerWords.j0 kq a0 a1 a2 a3 t231 x26_5 = some r) ∧ Aside0 (kq ≤ k) ∧ Aside0 (Below w.heap.size w wc))
  case first =>
    have H := HC6.out
    clear HC6
    replace H := Option.bind_eq_some_iff.mp H
    obtain ⟨t232, A80, H⟩ := H
    replace H : (if t232 = true then (customhouselaw07_LexerWords.j0 k a0 a1 a2 a3 t231 (decide ((a3.size : Int) > 400))) else (customhouselaw07_LexerWords.j0 k a0 a1 a2 a3 t231 true)) = some r := H
    have A8 := Aside0.mk A80
    clear A80
    by_cases c9 : t232 = true
    · subst c9
      have H1 : (customhouselaw07_LexerWords.j0 k a0 a1 a2 a3 t231 (decide ((a3.size : Int) > 400))) = some r := by rw [if_pos rfl] at H; exact H
      clear H
      have H := H1
      clear H1
      have H' := Aside0.mk H
      clear H
      go_wp2_with (first | ((with_reducible refine gate_callee (f := 20) rfl ?_); refine goesL_ (some 20) rfl rfl Tryd.func20 (by kernel_rfl) rfl #[.string a0] rfl (by (try simp only [List.map_toArray, List.map_cons, List.map_nil]); first | done | rfl | (simp only [List.length_drop, List.length_take]; rfl)) ?_; (with_reducible refine (customhouseref07_Name.calls k a0 true _ A8.out).mono ?_); rintro e w' ⟨rfl, ⟨nd, rfl⟩⟩; refine ⟨_, rfl, ?_⟩))
      go_meet
      case rel => exact ⟨_, (decide ((a3.size : Int) > 400)), (by first | rfl | (simp; done) | (simp [*]; done)), H', ⟨by first | omega | exact Nat.le_refl _⟩, ⟨by repeat (first | (with_reducible first | exact HB.out | apply below_alloc | apply pw_below_drewN | apply below_drew1) | exact HB.out)⟩⟩
    · replace c9 := Bool.eq_false_iff.mpr c9
      subst c9
      have H1 : (customhouselaw07_LexerWords.j0 k a0 a1 a2 a3 t231 true) = some r := by rw [if_neg (show ¬ (false = true) by decide)] at H; exact H
      clear H
      have H := H1
      clear H1
      have H' := Aside0.mk H
      clear H
      go_wp2_with (first | ((with_reducible refine gate_callee (f := 20) rfl ?_); refine goesL_ (some 20) rfl rfl Tryd.func20 (by kernel_rfl) rfl #[.string a0] rfl (by (try simp only [List.map_toArray, List.map_cons, List.map_nil]); first | done | rfl | (simp only [List.length_drop, List.length_take]; rfl)) ?_; (with_reducible refine (customhouseref07_Name.calls k a0 false _ A8.out).mono ?_); rintro e w' ⟨rfl, ⟨nd, rfl⟩⟩; refine ⟨_, rfl, ?_⟩))
      go_meet
      case rel => exact ⟨_, (true), (by first | rfl | (simp; done) | (simp [*]; done)), H', ⟨by first | omega | exact Nat.le_refl _⟩, ⟨by repeat (first | (with_reducible first | exact HB.out | apply below_alloc | apply pw_below_drewN | apply below_drew1) | exact HB.out)⟩⟩
  case rest =>
    clear HC6
    try clear c1
    try clear c2
    try clear p2
    try clear c9
    obtain ⟨kq, x26_5, rfl, HA, HJ5, HB⟩ := hcut
    cases kq with
    | zero => exact absurd HA.out (by simp [customhouselaw07_LexerWords.j0])
    | succ kj5 =>
      have H := HA.out
      clear HA
      simp only [customhouselaw07_LexerWords.j0] at H
      by_cases c10 : x26_5 = true
      · subst c10
        have H1 : (some t231) = some r := by rw [if_pos rfl] at H; exact H
        clear H
        have H := H1
        clear H1
        obtain rfl := Option.some.inj H
        go_wp2
        go_ret
        exact ⟨by first | rfl | (simp [errW_none, errW_some] <;> rfl) | (simp [*, errW_none, errW_some] <;> rfl), by repeat (first | (with_reducible first | exact HB.out | apply below_alloc | apply pw_below_drewN | apply below_drew1) | exact HB.out)⟩
      · replace c10 := Bool.eq_false_iff.mpr c10
        subst c10
        have H1 : (customhouselaw07_LexerWords.l0 kj5 a0 a1 a2 a3 t231 0) = some r := by rw [if_neg (show ¬ (false = true) by decide)] at H; exact H
        clear H
        have H := H1
        clear H1
        have H' := Aside0.mk H
        clear H
        go_wp2
        go_loopg [10] kj5 (fun kq v10 w' => ∃ (x10_2 : Int), v10 = .int .i64 x10_2 ∧ Aside0 (customhouselaw07_LexerWords.l0 kq a0 a1 a2 a3 t231 x10_2 = some r) ∧ Aside0 (kq ≤ kj5) ∧ Aside0 (Below w.heap.size w w'))
        case atStart => exact ⟨(0), (by first | rfl | (simp; done) | (simp [*]; done)), H', ⟨Nat.le_refl _⟩, ⟨by repeat (first | (with_reducible first | exact HB.out | apply below_alloc | apply pw_below_drewN | apply below_drew1) | exact HB.out)⟩⟩
        case round =>
          clear H'
          try clear c1
          try clear c2
          try clear p2
          try clear c9
          try clear c10
          try clear p2
          obtain ⟨x10_2, rfl, HA, HK2, HB⟩ := hrel
          cases gk with
          | zero => exact absurd HA.out (by simp [customhouselaw07_LexerWords.l0])
          | succ k2 =>
            have H := HA.out
            clear HA
            simp only [customhouselaw07_LexerWords.l0] at H
            by_cases c11 : x10_2 < (a3.size : Int)
            · rw [if_pos c11] at H
              have c11b0 : decide (x10_2 < (a3.size : Int)) = true := decide_eq_true c11
              clear c11
              by_cases c12 : 0 ≤ x10_2
              · rw [if_pos c12] at H
                have c12b0 : decide (0 ≤ x10_2) = true := decide_eq_true c12
                clear c12
                by_cases c14 : (bt a3 x10_2) = 34
                · rw [if_pos c14] at H
                  have c14b0 : ((bt a3 x10_2) == 34) = true := beq_iff_eq.mpr c14
                  have c14b1 : ((bt a3 x10_2) != 34) = false := bne_eq_false_iff_eq.mpr c14
                  clear c14
                  obtain rfl := Option.some.inj H
                  have p13 : 0 ≤ (x10_2 : Int) := of_decide_eq_true (by first | (with_reducible assumption) | assumption)
                  have q13 : x10_2 < (a3.size : Int) := of_decide_eq_true (by first | (with_reducible assumption) | assumption)
                  have hx13 := bt_at a3 x10_2
                  replace p13 := eq_true p13
                  replace q13 := eq_true q13
                  go_wp2
                  go_ret
                  exact ⟨by first | rfl | (simp [errW_none, errW_some] <;> rfl) | (simp [*, errW_none, errW_some] <;> rfl), by repeat (first | (with_reducible first | exact HB.out | apply below_alloc | apply pw_below_drewN | apply below_drew1) | exact HB.out)⟩
                · rw [if_neg c14] at H
                  have c14b0 : ((bt a3 x10_2) == 34) = false := beq_eq_false_iff_ne.mpr c14
                  have c14b1 : ((bt a3 x10_2) != 34) = true := bne_iff_ne.mpr c14
                  by_cases c16 : (bt a3 x10_2) = 10
                  · rw [if_pos c16] at H
                    have c16b0 : ((bt a3 x10_2) == 10) = true := beq_iff_eq.mpr c16
                    have c16b1 : ((bt a3 x10_2) != 10) = false := bne_eq_false_iff_eq.mpr c16
                    clear c16
                    obtain rfl := Option.some.inj H
                    have p13 : 0 ≤ (x10_2 : Int) := of_decide_eq_true (by first | (with_reducible assumption) | assumption)
                    have q13 : x10_2 < (a3.size : Int) := of_decide_eq_true (by first | (with_reducible assumption) | assumption)
                    have hx13 := bt_at a3 x10_2
                    replace p13 := eq_true p13
                    replace q13 := eq_true q13
                    have p15 : 0 ≤ (x10_2 : Int) := of_decide_eq_true (by first | (with_reducible assumption) | assumption)
                    have q15 : x10_2 < (a3.size : Int) := of_decide_eq_true (by first | (with_reducible assumption) | assumption)
                    have hx15 := bt_at a3 x10_2
                    replace p15 := eq_true p15
                    replace q15 := eq_true q15
                    go_wp2
                    go_ret
                    exact ⟨by first | rfl | (simp [errW_none, errW_some] <;> rfl) | (simp [*, errW_none, errW_some] <;> rfl), by repeat (first | (with_reducible first | exact HB.out | apply below_alloc | apply pw_below_drewN | apply below_drew1) | exact HB.out)⟩
                  · rw [if_neg c16] at H
                    have c16b0 : ((bt a3 x10_2) == 10) = false := beq_eq_false_iff_ne.mpr c16
                    have c16b1 : ((bt a3 x10_2) != 10) = true := bne_iff_ne.mpr c16
                    have H' := Aside0.mk H
                    clear H
                    have p13 : 0 ≤ (x10_2 : Int) := of_decide_eq_true (by first | (with_reducible assumption) | assumption)
                    have q13 : x10_2 < (a3.size : Int) := of_decide_eq_true (by first | (with_reducible assumption) | assumption)
                    have hx13 := bt_at a3 x10_2
                    replace p13 := eq_true p13
                    replace q13 := eq_true q13
                    have p15 : 0 ≤ (x10_2 : Int) := of_decide_eq_true (by first | (with_reducible assumption) | assumption)
                    have q15 : x10_2 < (a3.size : Int) := of_decide_eq_true (by first | (with_reducible assumption) | assumption)
                    have hx15 := bt_at a3 x10_2
                    replace p15 := eq_true p15
                    replace q15 := eq_true q15
                    go_wp2
                    go_roundg k2
                    case measure => have := HJ5.out; have := HK2.out; omega
                    case rel => exact ⟨(wrap64 (x10_2 + 1)), (by first | rfl | (simp; done) | (simp [*]; done)), H', ⟨by have := HJ5.out; have := HK2.out; omega⟩, ⟨by repeat (first | (with_reducible first | exact HB.out | apply below_alloc | apply pw_below_drewN | apply below_drew1) | exact HB.out)⟩⟩
              · rw [if_neg c12] at H
                exact absurd H (by simp)
            · rw [if_neg c11] at H
              have c11b0 : decide (x10_2 < (a3.size : Int)) = false := decide_eq_false c11
              clear c11
              replace H := Option.bind_eq_some_iff.mp H
              obtain ⟨t233, A170, H⟩ := H
              replace H : (if 0 ≤ (Int.tmod (wrap64 (a2)) 15) then (if (Int.tmod (wrap64 (a2)) 15) ≤ (wrap64 ((Int.tmod (wrap64 (a2)) 15) + 1)) then (if (wrap64 ((Int.tmod (wrap64 (a2)) 15) + 1)) ≤ 15 then (if a0.size + ((⟨#[61, 59, 60, 62, 40, 41, 123, 125, 91, 93, 44, 46, 58, 43, 45]⟩ : ByteArray).extract ((Int.tmod (wrap64 (a2)) 15) : Int).toNat ((wrap64 ((Int.tmod (wrap64 (a2)) 15) + 1)) : Int).toNat).size ≤ 9223372036854775807 then (if (a0 ++ ((⟨#[61, 59, 60, 62, 40, 41, 123, 125, 91, 93, 44, 46, 58, 43, 45]⟩ : ByteArray).extract ((Int.tmod (wrap64 (a2)) 15) : Int).toNat ((wrap64 ((Int.tmod (wrap64 (a2)) 15) + 1)) : Int).toNat)).size + t233.size ≤ 9223372036854775807 then (if ((a0 ++ ((⟨#[61, 59, 60, 62, 40, 41, 123, 125, 91, 93, 44, 46, 58, 43, 45]⟩ : ByteArray).extract ((Int.tmod (wrap64 (a2)) 15) : Int).toNat ((wrap64 ((Int.tmod (wrap64 (a2)) 15) + 1)) : Int).toNat)) ++ t233).size + 1 ≤ 9223372036854775807 then (if (((a0 ++ ((⟨#[61, 59, 60, 62, 40, 41, 123, 125, 91, 93, 44, 46, 58, 43, 45]⟩ : ByteArray).extract ((Int.tmod (wrap64 (a2)) 15) : Int).toNat ((wrap64 ((Int.tmod (wrap64 (a2)) 15) + 1)) : Int).toNat)) ++ t233) ++ (⟨#[34]⟩ : ByteArray)).size + a3.size ≤ 9223372036854775807 then (if ((((a0 ++ ((⟨#[61, 59, 60, 62, 40, 41, 123, 125, 91, 93, 44, 46, 58, 43, 45]⟩ : ByteArray).extract ((Int.tmod (wrap64 (a2)) 15) : Int).toNat ((wrap64 ((Int.tmod (wrap64 (a2)) 15) + 1)) : Int).toNat)) ++ t233) ++ (⟨#[34]⟩ : ByteArray)) ++ a3).size + 1 ≤ 9223372036854775807 then ((lexer_Lex.f (((((a0 ++ ((⟨#[61, 59, 60, 62, 40, 41, 123, 125, 91, 93, 44, 46, 58, 43, 45]⟩ : ByteArray).extract ((Int.tmod (wrap64 (a2)) 15) : Int).toNat ((wrap64 ((Int.tmod (wrap64 (a2)) 15) + 1)) : Int).toNat)) ++ t233) ++ (⟨#[34]⟩ : ByteArray)) ++ a3) ++ (⟨#[34]⟩ : ByteArray))).bind fun bt234 => (if bt234.2.1 = 0 then (if (bt234.1.length : Int) = 4 then (if 0 < (bt234.1.length : Int) then (if (((rd_T30 bt234.1 0).f0) == 1 && (((rd_T30 bt234.1 0).f1) == 0 && (((rd_T30 bt234.1 0).f2) == 0 && ((((rd_T30 bt234.1 0).f3).toList) == a0.toList)))) = true then (if 1 < (bt234.1.length : Int) then (if t231 = true then (if (((rd_T30 bt234.1 1).f0) == 4 && (((rd_T30 bt234.1 1).f1) == (a0.size : Int) && (((rd_T30 bt234.1 1).f2) == 0 && ((((rd_T30 bt234.1 1).f3).toList) == (((⟨#[61, 59, 60, 62, 40, 41, 123, 125, 91, 93, 44, 46, 58, 43, 45]⟩ : ByteArray).extract ((Int.tmod (wrap64 (a2)) 15) : Int).toNat ((wrap64 ((Int.tmod (wrap64 (a2)) 15) + 1)) : Int).toNat).toList))))) = true then (if 2 < (bt234.1.length : Int) then (if (((rd_T30 bt234.1 2).f0) == 2 && (((rd_T30 bt234.1 2).f1) == (wrap64 ((a0.size : Int) + 1)) && (((rd_T30 bt234.1 2).f2) == (wrap64 (Int.tmod a1 10000000000000)) && ((((rd_T30 bt234.1 2).f3).toList) == t233.toList)))) = true then (if 3 < (bt234.1.length : Int) then (some (((rd_T30 bt234.1 3).f0) == 3 && (((rd_T30 bt234.1 3).f1) == (wrap64 ((wrap64 ((a0.size : Int) + 1)) + (t233.size : Int))) && (((rd_T30 bt234.1 3).f2) == 0 && ((((rd_T30 bt234.1 3).f3).toList) == a3.toList))))) else (none)) else (some false)) else (none)) else (some false)) else (some false)) else (none)) else (if t231 = true then (some false) else (some false))) else (none)) else (some false)) else (some false))) else (none)) else (none)) else (none)) else (none)) else (none)) else (none)) else (none)) else (none)) = some r := H
              have A17 := Aside0.mk A170
              clear A170
              obtain ⟨ji18, hji18⟩ : ∃ j_ : Int, (Int.tmod (wrap64 (a2)) 15) = j_ := ⟨_, rfl⟩
              replace H : (if 0 ≤ (ji18) then (if (ji18) ≤ (wrap64 ((ji18) + 1)) then (if (wrap64 ((ji18) + 1)) ≤ 15 then (if a0.size + ((⟨#[61, 59, 60, 62, 40, 41, 123, 125, 91, 93, 44, 46, 58, 43, 45]⟩ : ByteArray).extract ((ji18) : Int).toNat ((wrap64 ((ji18) + 1)) : Int).toNat).size ≤ 9223372036854775807 then (if (a0 ++ ((⟨#[61, 59, 60, 62, 40, 41, 123, 125, 91, 93, 44, 46, 58, 43, 45]⟩ : ByteArray).extract ((ji18) : Int).toNat ((wrap64 ((ji18) + 1)) : Int).toNat)).size + t233.size ≤ 9223372036854775807 then (if ((a0 ++ ((⟨#[61, 59, 60, 62, 40, 41, 123, 125, 91, 93, 44, 46, 58, 43, 45]⟩ : ByteArray).extract ((ji18) : Int).toNat ((wrap64 ((ji18) + 1)) : Int).toNat)) ++ t233).size + 1 ≤ 9223372036854775807 then (if (((a0 ++ ((⟨#[61, 59, 60, 62, 40, 41, 123, 125, 91, 93, 44, 46, 58, 43, 45]⟩ : ByteArray).extract ((ji18) : Int).toNat ((wrap64 ((ji18) + 1)) : Int).toNat)) ++ t233) ++ (⟨#[34]⟩ : ByteArray)).size + a3.size ≤ 9223372036854775807 then (if ((((a0 ++ ((⟨#[61, 59, 60, 62, 40, 41, 123, 125, 91, 93, 44, 46, 58, 43, 45]⟩ : ByteArray).extract ((ji18) : Int).toNat ((wrap64 ((ji18) + 1)) : Int).toNat)) ++ t233) ++ (⟨#[34]⟩ : ByteArray)) ++ a3).size + 1 ≤ 9223372036854775807 then ((lexer_Lex.f (((((a0 ++ ((⟨#[61, 59, 60, 62, 40, 41, 123, 125, 91, 93, 44, 46, 58, 43, 45]⟩ : ByteArray).extract ((ji18) : Int).toNat ((wrap64 ((ji18) + 1)) : Int).toNat)) ++ t233) ++ (⟨#[34]⟩ : ByteArray)) ++ a3) ++ (⟨#[34]⟩ : ByteArray))).bind fun bt234 => (if bt234.2.1 = 0 then (if (bt234.1.length : Int) = 4 then (if 0 < (bt234.1.length : Int) then (if (((rd_T30 bt234.1 0).f0) == 1 && (((rd_T30 bt234.1 0).f1) == 0 && (((rd_T30 bt234.1 0).f2) == 0 && ((((rd_T30 bt234.1 0).f3).toList) == a0.toList)))) = true then (if 1 < (bt234.1.length : Int) then (if t231 = true then (if (((rd_T30 bt234.1 1).f0) == 4 && (((rd_T30 bt234.1 1).f1) == (a0.size : Int) && (((rd_T30 bt234.1 1).f2) == 0 && ((((rd_T30 bt234.1 1).f3).toList) == (((⟨#[61, 59, 60, 62, 40, 41, 123, 125, 91, 93, 44, 46, 58, 43, 45]⟩ : ByteArray).extract ((ji18) : Int).toNat ((wrap64 ((ji18) + 1)) : Int).toNat).toList))))) = true then (if 2 < (bt234.1.length : Int) then (if (((rd_T30 bt234.1 2).f0) == 2 && (((rd_T30 bt234.1 2).f1) == (wrap64 ((a0.size : Int) + 1)) && (((rd_T30 bt234.1 2).f2) == (wrap64 (Int.tmod a1 10000000000000)) && ((((rd_T30 bt234.1 2).f3).toList) == t233.toList)))) = true then (if 3 < (bt234.1.length : Int) then (some (((rd_T30 bt234.1 3).f0) == 3 && (((rd_T30 bt234.1 3).f1) == (wrap64 ((wrap64 ((a0.size : Int) + 1)) + (t233.size : Int))) && (((rd_T30 bt234.1 3).f2) == 0 && ((((rd_T30 bt234.1 3).f3).toList) == a3.toList))))) else (none)) else (some false)) else (none)) else (some false)) else (some false)) else (none)) else (if t231 = true then (some false) else (some false))) else (none)) else (some false)) else (some false))) else (none)) else (none)) else (none)) else (none)) else (none)) else (none)) else (none)) else (none)) = some r := by first | (rw [hji18] at H; exact H) | (simp only [hji18] at H ⊢; exact H)
              (try rw [hji18] at A17)
              by_cases c19 : 0 ≤ (ji18)
              · rw [if_pos c19] at H
                have c19b0 := eq_true c19
                have c19b1 : decide (0 ≤ (ji18)) = true := decide_eq_true c19
                clear c19
                by_cases c20 : (ji18) ≤ (wrap64 ((ji18) + 1))
                · rw [if_pos c20] at H
                  have c20b0 := eq_true c20
                  have c20b1 : decide ((ji18) ≤ (wrap64 ((ji18) + 1))) = true := decide_eq_true c20
                  by_cases c21 : (wrap64 ((ji18) + 1)) ≤ 15
                  · rw [if_pos c21] at H
                    have c21b0 := eq_true c21
                    have c21b1 : decide ((wrap64 ((ji18) + 1)) ≤ 15) = true := decide_eq_true c21
                    by_cases c22 : a0.size + ((⟨#[61, 59, 60, 62, 40, 41, 123, 125, 91, 93, 44, 46, 58, 43, 45]⟩ : ByteArray).extract ((ji18) : Int).toNat ((wrap64 ((ji18) + 1)) : Int).toNat).size ≤ 9223372036854775807
                    · rw [if_pos c22] at H
                      have c22b0 := eq_true c22
                      have c22b1 : decide (a0.size + ((⟨#[61, 59, 60, 62, 40, 41, 123, 125, 91, 93, 44, 46, 58, 43, 45]⟩ : ByteArray).extract ((ji18) : Int).toNat ((wrap64 ((ji18) + 1)) : Int).toNat).size ≤ 9223372036854775807) = true := decide_eq_true c22
                      try have c22b2 : (9223372036854775807 < a0.size + ((⟨#[61, 59, 60, 62, 40, 41, 123, 125, 91, 93, 44, 46, 58, 43, 45]⟩ : ByteArray).extract ((ji18) : Int).toNat ((wrap64 ((ji18) + 1)) : Int).toNat).size) = False := eq_false (Nat.not_lt.2 c22)
                      have e18_ : ((⟨#[61, 59, 60, 62, 40, 41, 123, 125, 91, 93, 44, 46, 58, 43, 45]⟩ : ByteArray).extract ((ji18) : Int).toNat ((wrap64 ((ji18) + 1)) : Int).toNat).size = ((wrap64 (ji18 + 1)).toNat - ji18.toNat) := by rw [ByteArray.size_extract, Nat.min_eq_left (by have := of_decide_eq_true c21b1; show _ ≤ 15; omega)]
                      have one_ : (⟨#[34]⟩ : ByteArray).size = 1 := rfl
                      have HE18 := Aside0.mk e18_
                      have HONE := Aside0.mk one_
                      clear e18_ one_
                      by_cases c23 : (a0 ++ ((⟨#[61, 59, 60, 62, 40, 41, 123, 125, 91, 93, 44, 46, 58, 43, 45]⟩ : ByteArray).extract ((ji18) : Int).toNat ((wrap64 ((ji18) + 1)) : Int).toNat)).size + t233.size ≤ 9223372036854775807
                      · rw [if_pos c23] at H
                        have c23b0 := eq_true c23
                        have c23b1 : decide ((a0 ++ ((⟨#[61, 59, 60, 62, 40, 41, 123, 125, 91, 93, 44, 46, 58, 43, 45]⟩ : ByteArray).extract ((ji18) : Int).toNat ((wrap64 ((ji18) + 1)) : Int).toNat)).size + t233.size ≤ 9223372036854775807) = true := decide_eq_true c23
                        try have c23b2 : (9223372036854775807 < (a0 ++ ((⟨#[61, 59, 60, 62, 40, 41, 123, 125, 91, 93, 44, 46, 58, 43, 45]⟩ : ByteArray).extract ((ji18) : Int).toNat ((wrap64 ((ji18) + 1)) : Int).toNat)).size + t233.size) = False := eq_false (Nat.not_lt.2 c23)
                        have c23b3 : a0.size + ((wrap64 (ji18 + 1)).toNat - ji18.toNat) + t233.size ≤ 9223372036854775807 := by have q_ := c23; simp only [ByteArray.size_append, HE18.out, HONE.out] at q_; exact q_
                        have c23b4 := eq_true c23b3
                        have c23b5 : (9223372036854775807 < a0.size + ((wrap64 (ji18 + 1)).toNat - ji18.toNat) + t233.size) = False := eq_false (Nat.not_lt.2 c23b3)
                        clear c23b3
                        by_cases c24 : ((a0 ++ ((⟨#[61, 59, 60, 62, 40, 41, 123, 125, 91, 93, 44, 46, 58, 43, 45]⟩ : ByteArray).extract ((ji18) : Int).toNat ((wrap64 ((ji18) + 1)) : Int).toNat)) ++ t233).size + 1 ≤ 9223372036854775807
                        · rw [if_pos c24] at H
                          have c24b0 := eq_true c24
                          have c24b1 : decide (((a0 ++ ((⟨#[61, 59, 60, 62, 40, 41, 123, 125, 91, 93, 44, 46, 58, 43, 45]⟩ : ByteArray).extract ((ji18) : Int).toNat ((wrap64 ((ji18) + 1)) : Int).toNat)) ++ t233).size + 1 ≤ 9223372036854775807) = true := decide_eq_true c24
                          try have c24b2 : (9223372036854775807 < ((a0 ++ ((⟨#[61, 59, 60, 62, 40, 41, 123, 125, 91, 93, 44, 46, 58, 43, 45]⟩ : ByteArray).extract ((ji18) : Int).toNat ((wrap64 ((ji18) + 1)) : Int).toNat)) ++ t233).size + 1) = False := eq_false (Nat.not_lt.2 c24)
                          have c24b3 : a0.size + ((wrap64 (ji18 + 1)).toNat - ji18.toNat) + t233.size + 1 ≤ 9223372036854775807 := by have q_ := c24; simp only [ByteArray.size_append, HE18.out, HONE.out] at q_; exact q_
                          have c24b4 := eq_true c24b3
                          have c24b5 : (9223372036854775807 < a0.size + ((wrap64 (ji18 + 1)).toNat - ji18.toNat) + t233.size + 1) = False := eq_false (Nat.not_lt.2 c24b3)
                          clear c24b3
                          by_cases c25 : (((a0 ++ ((⟨#[61, 59, 60, 62, 40, 41, 123, 125, 91, 93, 44, 46, 58, 43, 45]⟩ : ByteArray).extract ((ji18) : Int).toNat ((wrap64 ((ji18) + 1)) : Int).toNat)) ++ t233) ++ (⟨#[34]⟩ : ByteArray)).size + a3.size ≤ 9223372036854775807
                          · rw [if_pos c25] at H
                            have c25b0 := eq_true c25
                            have c25b1 : decide ((((a0 ++ ((⟨#[61, 59, 60, 62, 40, 41, 123, 125, 91, 93, 44, 46, 58, 43, 45]⟩ : ByteArray).extract ((ji18) : Int).toNat ((wrap64 ((ji18) + 1)) : Int).toNat)) ++ t233) ++ (⟨#[34]⟩ : ByteArray)).size + a3.size ≤ 9223372036854775807) = true := decide_eq_true c25
                            try have c25b2 : (9223372036854775807 < (((a0 ++ ((⟨#[61, 59, 60, 62, 40, 41, 123, 125, 91, 93, 44, 46, 58, 43, 45]⟩ : ByteArray).extract ((ji18) : Int).toNat ((wrap64 ((ji18) + 1)) : Int).toNat)) ++ t233) ++ (⟨#[34]⟩ : ByteArray)).size + a3.size) = False := eq_false (Nat.not_lt.2 c25)
                            have c25b3 : a0.size + ((wrap64 (ji18 + 1)).toNat - ji18.toNat) + t233.size + 1 + a3.size ≤ 9223372036854775807 := by have q_ := c25; simp only [ByteArray.size_append, HE18.out, HONE.out] at q_; exact q_
                            have c25b4 := eq_true c25b3
                            have c25b5 : (9223372036854775807 < a0.size + ((wrap64 (ji18 + 1)).toNat - ji18.toNat) + t233.size + 1 + a3.size) = False := eq_false (Nat.not_lt.2 c25b3)
                            clear c25b3
                            by_cases c26 : ((((a0 ++ ((⟨#[61, 59, 60, 62, 40, 41, 123, 125, 91, 93, 44, 46, 58, 43, 45]⟩ : ByteArray).extract ((ji18) : Int).toNat ((wrap64 ((ji18) + 1)) : Int).toNat)) ++ t233) ++ (⟨#[34]⟩ : ByteArray)) ++ a3).size + 1 ≤ 9223372036854775807
                            · rw [if_pos c26] at H
                              have c26b0 := eq_true c26
                              have c26b1 : decide (((((a0 ++ ((⟨#[61, 59, 60, 62, 40, 41, 123, 125, 91, 93, 44, 46, 58, 43, 45]⟩ : ByteArray).extract ((ji18) : Int).toNat ((wrap64 ((ji18) + 1)) : Int).toNat)) ++ t233) ++ (⟨#[34]⟩ : ByteArray)) ++ a3).size + 1 ≤ 9223372036854775807) = true := decide_eq_true c26
                              try have c26b2 : (9223372036854775807 < ((((a0 ++ ((⟨#[61, 59, 60, 62, 40, 41, 123, 125, 91, 93, 44, 46, 58, 43, 45]⟩ : ByteArray).extract ((ji18) : Int).toNat ((wrap64 ((ji18) + 1)) : Int).toNat)) ++ t233) ++ (⟨#[34]⟩ : ByteArray)) ++ a3).size + 1) = False := eq_false (Nat.not_lt.2 c26)
                              have c26b3 : a0.size + ((wrap64 (ji18 + 1)).toNat - ji18.toNat) + t233.size + 1 + a3.size + 1 ≤ 9223372036854775807 := by have q_ := c26; simp only [ByteArray.size_append, HE18.out, HONE.out] at q_; exact q_
                              have c26b4 := eq_true c26b3
                              have c26b5 : (9223372036854775807 < a0.size + ((wrap64 (ji18 + 1)).toNat - ji18.toNat) + t233.size + 1 + a3.size + 1) = False := eq_false (Nat.not_lt.2 c26b3)
                              clear c26b3
                              replace H := Option.bind_eq_some_iff.mp H
                              obtain ⟨⟨t234, t235, t236⟩, A270, H⟩ := H
                              replace H : (if t235 = 0 then (if (t234.length : Int) = 4 then (if 0 < (t234.length : Int) then (if (((rd_T30 t234 0).f0) == 1 && (((rd_T30 t234 0).f1) == 0 && (((rd_T30 t234 0).f2) == 0 && ((((rd_T30 t234 0).f3).toList) == a0.toList)))) = true then (if 1 < (t234.length : Int) then (if t231 = true then (if (((rd_T30 t234 1).f0) == 4 && (((rd_T30 t234 1).f1) == (a0.size : Int) && (((rd_T30 t234 1).f2) == 0 && ((((rd_T30 t234 1).f3).toList) == (((⟨#[61, 59, 60, 62, 40, 41, 123, 125, 91, 93, 44, 46, 58, 43, 45]⟩ : ByteArray).extract ((ji18) : Int).toNat ((wrap64 ((ji18) + 1)) : Int).toNat).toList))))) = true then (if 2 < (t234.length : Int) then (if (((rd_T30 t234 2).f0) == 2 && (((rd_T30 t234 2).f1) == (wrap64 ((a0.size : Int) + 1)) && (((rd_T30 t234 2).f2) == (wrap64 (Int.tmod a1 10000000000000)) && ((((rd_T30 t234 2).f3).toList) == t233.toList)))) = true then (if 3 < (t234.length : Int) then (some (((rd_T30 t234 3).f0) == 3 && (((rd_T30 t234 3).f1) == (wrap64 ((wrap64 ((a0.size : Int) + 1)) + (t233.size : Int))) && (((rd_T30 t234 3).f2) == 0 && ((((rd_T30 t234 3).f3).toList) == a3.toList))))) else (none)) else (some false)) else (none)) else (some false)) else (some false)) else (none)) else (if t231 = true then (some false) else (some false))) else (none)) else (some false)) else (some false)) = some r := H
                              have A27 := Aside0.mk A270
                              clear A270
                              by_cases c28 : t235 = 0
                              · rw [if_pos c28] at H
                                have c28b0 : (t235 == 0) = true := beq_iff_eq.mpr c28
                                have c28b1 : (t235 != 0) = false := bne_eq_false_iff_eq.mpr c28
                                clear c28
                                by_cases c29 : (t234.length : Int) = 4
                                · rw [if_pos c29] at H
                                  have c29b0 : ((t234.length : Int) == 4) = true := beq_iff_eq.mpr c29
                                  have c29b1 : ((t234.length : Int) != 4) = false := bne_eq_false_iff_eq.mpr c29
                                  clear c29
                                  by_cases c30 : 0 < (t234.length : Int)
                                  · rw [if_pos c30] at H
                                    have c30b0 : decide (0 < (t234.length : Int)) = true := decide_eq_true c30
                                    have c30b1 : decide (0 < t234.length) = true := decide_eq_true (by omega)
                                    clear c30
                                    by_cases c31 : (((rd_T30 t234 0).f0) == 1 && (((rd_T30 t234 0).f1) == 0 && (((rd_T30 t234 0).f2) == 0 && ((((rd_T30 t234 0).f3).toList) == a0.toList)))) = true
                                    · rw [if_pos c31] at H
                                      have c31b0 : (((rd_T30 t234 0).f0) == 1 && (((rd_T30 t234 0).f1) == 0 && (((rd_T30 t234 0).f2) == 0 && ((((rd_T30 t234 0).f3).toList) == a0.toList)))) = true := c31
                                      (try (have c31b1 : decide (((rd_T30 t234 0).f0) = 1 && (((rd_T30 t234 0).f1) == 0 && (((rd_T30 t234 0).f2) == 0 && ((((rd_T30 t234 0).f3).toList) == a0.toList)))) = true := by simpa using c31))
                                      (try (have c31b2 : (((rd_T30 t234 0).f0) == 1 && (((rd_T30 t234 0).f1) == 0 && (((rd_T30 t234 0).f2) == 0 && ((((rd_T30 t234 0).f3).toList) == a0.toList)))) = true := by simpa using c31))
                                      clear c31
                                      by_cases c32 : 1 < (t234.length : Int)
                                      · rw [if_pos c32] at H
                                        have c32b0 : decide (1 < (t234.length : Int)) = true := decide_eq_true c32
                                        have c32b1 : decide (1 < t234.length) = true := decide_eq_true (by omega)
                                        clear c32
                                        by_cases c33 : t231 = true
                                        · subst c33
                                          have H1 : (if (((rd_T30 t234 1).f0) == 4 && (((rd_T30 t234 1).f1) == (a0.size : Int) && (((rd_T30 t234 1).f2) == 0 && ((((rd_T30 t234 1).f3).toList) == (((⟨#[61, 59, 60, 62, 40, 41, 123, 125, 91, 93, 44, 46, 58, 43, 45]⟩ : ByteArray).extract ((ji18) : Int).toNat ((wrap64 ((ji18) + 1)) : Int).toNat).toList))))) = true then (if 2 < (t234.length : Int) then (if (((rd_T30 t234 2).f0) == 2 && (((rd_T30 t234 2).f1) == (wrap64 ((a0.size : Int) + 1)) && (((rd_T30 t234 2).f2) == (wrap64 (Int.tmod a1 10000000000000)) && ((((rd_T30 t234 2).f3).toList) == t233.toList)))) = true then (if 3 < (t234.length : Int) then (some (((rd_T30 t234 3).f0) == 3 && (((rd_T30 t234 3).f1) == (wrap64 ((wrap64 ((a0.size : Int) + 1)) + (t233.size : Int))) && (((rd_T30 t234 3).f2) == 0 && ((((rd_T30 t234 3).f3).toList) == a3.toList))))) else (none)) else (some false)) else (none)) else (some false)) = some r := by rw [if_pos rfl] at H; exact H
                                          clear H
                                          have H := H1
                                          clear H1
                                          by_cases c34 : (((rd_T30 t234 1).f0) == 4 && (((rd_T30 t234 1).f1) == (a0.size : Int) && (((rd_T30 t234 1).f2) == 0 && ((((rd_T30 t234 1).f3).toList) == (((⟨#[61, 59, 60, 62, 40, 41, 123, 125, 91, 93, 44, 46, 58, 43, 45]⟩ : ByteArray).extract ((ji18) : Int).toNat ((wrap64 ((ji18) + 1)) : Int).toNat).toList))))) = true
                                          · rw [if_pos c34] at H
                                            have c34b0 : (((rd_T30 t234 1).f0) == 4 && (((rd_T30 t234 1).f1) == (a0.size : Int) && (((rd_T30 t234 1).f2) == 0 && ((((rd_T30 t234 1).f3).toList) == (((⟨#[61, 59, 60, 62, 40, 41, 123, 125, 91, 93, 44, 46, 58, 43, 45]⟩ : ByteArray).extract ((ji18) : Int).toNat ((wrap64 ((ji18) + 1)) : Int).toNat).toList))))) = true := c34
                                            (try (have c34b1 : decide (((rd_T30 t234 1).f0) = 4 && (((rd_T30 t234 1).f1) == (a0.size : Int) && (((rd_T30 t234 1).f2) == 0 && ((((rd_T30 t234 1).f3).toList) == (((⟨#[61, 59, 60, 62, 40, 41, 123, 125, 91, 93, 44, 46, 58, 43, 45]⟩ : ByteArray).extract ((ji18) : Int).toNat ((wrap64 ((ji18) + 1)) : Int).toNat).toList))))) = true := by simpa using c34))
                                            (try (have c34b2 : (((rd_T30 t234 1).f0) == 4 && (((rd_T30 t234 1).f1) == (a0.size : Int) && (((rd_T30 t234 1).f2) == 0 && ((((rd_T30 t234 1).f3).toList) == (((⟨#[61, 59, 60, 62, 40, 41, 123, 125, 91, 93, 44, 46, 58, 43, 45]⟩ : ByteArray).extract ((ji18) : Int).toNat ((wrap64 ((ji18) + 1)) : Int).toNat).toList))))) = true := by simpa using c34))
                                            clear c34
                                            by_cases c35 : 2 < (t234.length : Int)
                                            · rw [if_pos c35] at H
                                              have c35b0 : decide (2 < (t234.length : Int)) = true := decide_eq_true c35
                                              have c35b1 : decide (2 < t234.length) = true := decide_eq_true (by omega)
                                              clear c35
                                              by_cases c36 : (((rd_T30 t234 2).f0) == 2 && (((rd_T30 t234 2).f1) == (wrap64 ((a0.size : Int) + 1)) && (((rd_T30 t234 2).f2) == (wrap64 (Int.tmod a1 10000000000000)) && ((((rd_T30 t234 2).f3).toList) == t233.toList)))) = true
                                              · rw [if_pos c36] at H
                                                have c36b0 : (((rd_T30 t234 2).f0) == 2 && (((rd_T30 t234 2).f1) == (wrap64 ((a0.size : Int) + 1)) && (((rd_T30 t234 2).f2) == (wrap64 (Int.tmod a1 10000000000000)) && ((((rd_T30 t234 2).f3).toList) == t233.toList)))) = true := c36
                                                (try (have c36b1 : decide (((rd_T30 t234 2).f0) = 2 && (((rd_T30 t234 2).f1) == (wrap64 ((a0.size : Int) + 1)) && (((rd_T30 t234 2).f2) == (wrap64 (Int.tmod a1 10000000000000)) && ((((rd_T30 t234 2).f3).toList) == t233.toList)))) = true := by simpa using c36))
                                                (try (have c36b2 : (((rd_T30 t234 2).f0) == 2 && (((rd_T30 t234 2).f1) == (wrap64 ((a0.size : Int) + 1)) && (((rd_T30 t234 2).f2) == (wrap64 (Int.tmod a1 10000000000000)) && ((((rd_T30 t234 2).f3).toList) == t233.toList)))) = true := by simpa using c36))
                                                clear c36
                                                by_cases c37 : 3 < (t234.length : Int)
                                                · rw [if_pos c37] at H
                                                  have c37b0 : decide (3 < (t234.length : Int)) = true := decide_eq_true c37
                                                  have c37b1 : decide (3 < t234.length) = true := decide_eq_true (by omega)
                                                  clear c37
                                                  obtain rfl := Option.some.inj H
                                                  go_wp2_with (first | ((with_reducible refine gate_callee (f := 21) rfl ?_); refine goesL_ (some 49) rfl rfl Tryd.func21 (by kernel_rfl) rfl #[.int .i64 (wrap64 (Int.tmod a1 10000000000000))] rfl (by (try simp only [List.map_toArray, List.map_cons, List.map_nil]); first | done | rfl | (simp only [List.length_drop, List.length_take]; rfl)) ?_; (with_reducible refine (customhouseref07_Decimal.calls k2 (wrap64 (Int.tmod a1 10000000000000)) t233 _ A17.out).mono ?_); rintro e w' ⟨rfl, ⟨nd, rfl⟩⟩; refine ⟨_, rfl, ?_⟩) | ((with_reducible refine gate_callee (f := 12) rfl ?_); refine goesL_ (some 68) rfl rfl Tryd.func12 (by kernel_rfl) rfl #[.string (((((a0 ++ ((⟨#[61, 59, 60, 62, 40, 41, 123, 125, 91, 93, 44, 46, 58, 43, 45]⟩ : ByteArray).extract ((ji18) : Int).toNat ((wrap64 ((ji18) + 1)) : Int).toNat)) ++ t233) ++ (⟨#[34]⟩ : ByteArray)) ++ a3) ++ (⟨#[34]⟩ : ByteArray))] rfl (by (try simp only [List.map_toArray, List.map_cons, List.map_nil]); first | done | (simp only [hji18]; rfl) | rfl | (simp only [List.length_drop, List.length_take]; rfl)) ?_; (with_reducible refine (lexer_Lex.calls (((((a0 ++ ((⟨#[61, 59, 60, 62, 40, 41, 123, 125, 91, 93, 44, 46, 58, 43, 45]⟩ : ByteArray).extract ((ji18) : Int).toNat ((wrap64 ((ji18) + 1)) : Int).toNat)) ++ t233) ++ (⟨#[34]⟩ : ByteArray)) ++ a3) ++ (⟨#[34]⟩ : ByteArray)) t234 t235 t236 _ A27.out).mono ?_); rintro e w38 ⟨v237, rfl, ho0, hb⟩; refine ⟨_, rfl, ?_⟩; have n0_ := Aside0.mk (Kd.R_lower ho0 (below_size (by repeat (first | (with_reducible first | exact HB.out | apply below_alloc | apply pw_below_drewN | apply below_drew1) | exact HB.out)))); have n1_ := Aside0.mk (below_step (by repeat (first | (with_reducible first | exact HB.out | apply below_alloc | apply pw_below_drewN | apply below_drew1) | exact HB.out)) hb); clear HB; have HO238 := n0_; have HB := n1_; clear n0_ n1_; (try clear hb); (try clear hb2); (try clear hk); (try clear hi); (try clear ho0); obtain ⟨Ao39, co39, eo39⟩ := Kd.R_slice HO238.out; subst eo39; have p239 : 0 ≤ (0 : Int) := (by omega); have q239 : 0 < (t234.length : Int) := of_decide_eq_true (by first | (with_reducible assumption) | assumption); obtain ⟨ad239, e239, hx239_0, hx239_1, hx239_2, hx239_3⟩ := at_T30 (Kd.R_reads' HO238.out).2.2 0 p239 q239; cases e239; have qi239 : (0 < t234.length) = True := eq_true (by omega); (try rw [show ((0 : Int)).toNat = 0 from rfl] at hx239_0); (try rw [show 0 * 4 = 0 from rfl] at hx239_0); (try rw [Addr.add_zero'] at hx239_0); (try rw [show ((0 : Int)).toNat = 0 from rfl] at hx239_1); (try rw [show 0 * 4 = 0 from rfl] at hx239_1); (try rw [Addr.add_zero'] at hx239_1); (try rw [show ((0 : Int)).toNat = 0 from rfl] at hx239_2); (try rw [show 0 * 4 = 0 from rfl] at hx239_2); (try rw [Addr.add_zero'] at hx239_2); (try rw [show ((0 : Int)).toNat = 0 from rfl] at hx239_3); (try rw [show 0 * 4 = 0 from rfl] at hx239_3); (try rw [Addr.add_zero'] at hx239_3); replace p239 := eq_true p239; replace q239 := eq_true q239; have p240 : 0 ≤ (1 : Int) := (by omega); have q240 : 1 < (t234.length : Int) := of_decide_eq_true (by first | (with_reducible assumption) | assumption); obtain ⟨ad240, e240, hx240_0, hx240_1, hx240_2, hx240_3⟩ := at_T30 (Kd.R_reads' HO238.out).2.2 1 p240 q240; obtain rfl : ad239 = ad240 := (by injection e240); (try simp only [show (1 : Int).toNat = 1 from rfl, Nat.reduceMul, Nat.reduceEqDiff, Go.Addr.add, ↓reduceIte] at hx240_0); (try simp only [show (1 : Int).toNat = 1 from rfl, Nat.reduceMul, Nat.reduceEqDiff, Go.Addr.add, ↓reduceIte] at hx240_1); (try simp only [show (1 : Int).toNat = 1 from rfl, Nat.reduceMul, Nat.reduceEqDiff, Go.Addr.add, ↓reduceIte] at hx240_2); (try simp only [show (1 : Int).toNat = 1 from rfl, Nat.reduceMul, Nat.reduceEqDiff, Go.Addr.add, ↓reduceIte] at hx240_3); have qi240 : (1 < t234.length) = True := eq_true (by omega); (try rw [show ((1 : Int)).toNat = 1 from rfl] at hx240_0); (try rw [show 1 * 4 = 4 from rfl] at hx240_0); (try rw [show ((1 : Int)).toNat = 1 from rfl] at hx240_1); (try rw [show 1 * 4 = 4 from rfl] at hx240_1); (try rw [show ((1 : Int)).toNat = 1 from rfl] at hx240_2); (try rw [show 1 * 4 = 4 from rfl] at hx240_2); (try rw [show ((1 : Int)).toNat = 1 from rfl] at hx240_3); (try rw [show 1 * 4 = 4 from rfl] at hx240_3); replace p240 := eq_true p240; replace q240 := eq_true q240; have p241 : 0 ≤ (2 : Int) := (by omega); have q241 : 2 < (t234.length : Int) := of_decide_eq_true (by first | (with_reducible assumption) | assumption); obtain ⟨ad241, e241, hx241_0, hx241_1, hx241_2, hx241_3⟩ := at_T30 (Kd.R_reads' HO238.out).2.2 2 p241 q241; obtain rfl : ad239 = ad241 := (by injection e241); (try simp only [show (2 : Int).toNat = 2 from rfl, Nat.reduceMul, Nat.reduceEqDiff, Go.Addr.add, ↓reduceIte] at hx241_0); (try simp only [show (2 : Int).toNat = 2 from rfl, Nat.reduceMul, Nat.reduceEqDiff, Go.Addr.add, ↓reduceIte] at hx241_1); (try simp only [show (2 : Int).toNat = 2 from rfl, Nat.reduceMul, Nat.reduceEqDiff, Go.Addr.add, ↓reduceIte] at hx241_2); (try simp only [show (2 : Int).toNat = 2 from rfl, Nat.reduceMul, Nat.reduceEqDiff, Go.Addr.add, ↓reduceIte] at hx241_3); have qi241 : (2 < t234.length) = True := eq_true (by omega); (try rw [show ((2 : Int)).toNat = 2 from rfl] at hx241_0); (try rw [show 2 * 4 = 8 from rfl] at hx241_0); (try rw [show ((2 : Int)).toNat = 2 from rfl] at hx241_1); (try rw [show 2 * 4 = 8 from rfl] at hx241_1); (try rw [show ((2 : Int)).toNat = 2 from rfl] at hx241_2); (try rw [show 2 * 4 = 8 from rfl] at hx241_2); (try rw [show ((2 : Int)).toNat = 2 from rfl] at hx241_3); (try rw [show 2 * 4 = 8 from rfl] at hx241_3); replace p241 := eq_true p241; replace q241 := eq_true q241; have p242 : 0 ≤ (3 : Int) := (by omega); have q242 : 3 < (t234.length : Int) := of_decide_eq_true (by first | (with_reducible assumption) | assumption); obtain ⟨ad242, e242, hx242_0, hx242_1, hx242_2, hx242_3⟩ := at_T30 (Kd.R_reads' HO238.out).2.2 3 p242 q242; obtain rfl : ad239 = ad242 := (by injection e242); (try simp only [show (3 : Int).toNat = 3 from rfl, Nat.reduceMul, Nat.reduceEqDiff, Go.Addr.add, ↓reduceIte] at hx242_0); (try simp only [show (3 : Int).toNat = 3 from rfl, Nat.reduceMul, Nat.reduceEqDiff, Go.Addr.add, ↓reduceIte] at hx242_1); (try simp only [show (3 : Int).toNat = 3 from rfl, Nat.reduceMul, Nat.reduceEqDiff, Go.Addr.add, ↓reduceIte] at hx242_2); (try simp only [show (3 : Int).toNat = 3 from rfl, Nat.reduceMul, Nat.reduceEqDiff, Go.Addr.add, ↓reduceIte] at hx242_3); have qi242 : (3 < t234.length) = True := eq_true (by omega); (try rw [show ((3 : Int)).toNat = 3 from rfl] at hx242_0); (try rw [show 3 * 4 = 12 from rfl] at hx242_0); (try rw [show ((3 : Int)).toNat = 3 from rfl] at hx242_1); (try rw [show 3 * 4 = 12 from rfl] at hx242_1); (try rw [show ((3 : Int)).toNat = 3 from rfl] at hx242_2); (try rw [show 3 * 4 = 12 from rfl] at hx242_2); (try rw [show ((3 : Int)).toNat = 3 from rfl] at hx242_3); (try rw [show 3 * 4 = 12 from rfl] at hx242_3); replace p242 := eq_true p242; replace q242 := eq_true q242))
                                                  go_ret
                                                  exact ⟨by first | rfl | (simp [errW_none, errW_some] <;> rfl) | (simp only [← hji18]; first | rfl | (simp [errW_none, errW_some] <;> rfl)) | (simp [*, errW_none, errW_some] <;> rfl), by repeat (first | (with_reducible first | exact HB.out | apply below_alloc | apply pw_below_drewN | apply below_drew1) | exact HB.out)⟩
                                                · rw [if_neg c37] at H
                                                  exact absurd H (by simp)
                                              · rw [if_neg c36] at H
                                                have c36b0 : (((rd_T30 t234 2).f0) == 2 && (((rd_T30 t234 2).f1) == (wrap64 ((a0.size : Int) + 1)) && (((rd_T30 t234 2).f2) == (wrap64 (Int.tmod a1 10000000000000)) && ((((rd_T30 t234 2).f3).toList) == t233.toList)))) = false := by simpa using c36
                                                (try (have c36b1 : decide (((rd_T30 t234 2).f0) = 2 && (((rd_T30 t234 2).f1) == (wrap64 ((a0.size : Int) + 1)) && (((rd_T30 t234 2).f2) == (wrap64 (Int.tmod a1 10000000000000)) && ((((rd_T30 t234 2).f3).toList) == t233.toList)))) = false := by simpa using c36))
                                                (try (have c36b2 : (((rd_T30 t234 2).f0) == 2 && (((rd_T30 t234 2).f1) == (wrap64 ((a0.size : Int) + 1)) && (((rd_T30 t234 2).f2) == (wrap64 (Int.tmod a1 10000000000000)) && ((((rd_T30 t234 2).f3).toList) == t233.toList)))) = false := by simpa using c36))
                                                (try (have c36b3 : ¬ (((rd_T30 t234 2).f0) = 2 && (((rd_T30 t234 2).f1) == (wrap64 ((a0.size : Int) + 1)) && (((rd_T30 t234 2).f2) == (wrap64 (Int.tmod a1 10000000000000)) && ((((rd_T30 t234 2).f3).toList) == t233.toList)))) := by simpa using c36))
                                                clear c36
                                                obtain rfl := Option.some.inj H
                                                go_wp2_with (first | ((with_reducible refine gate_callee (f := 21) rfl ?_); refine goesL_ (some 49) rfl rfl Tryd.func21 (by kernel_rfl) rfl #[.int .i64 (wrap64 (Int.tmod a1 10000000000000))] rfl (by (try simp only [List.map_toArray, List.map_cons, List.map_nil]); first | done | rfl | (simp only [List.length_drop, List.length_take]; rfl)) ?_; (with_reducible refine (customhouseref07_Decimal.calls k2 (wrap64 (Int.tmod a1 10000000000000)) t233 _ A17.out).mono ?_); rintro e w' ⟨rfl, ⟨nd, rfl⟩⟩; refine ⟨_, rfl, ?_⟩) | ((with_reducible refine gate_callee (f := 12) rfl ?_); refine goesL_ (some 68) rfl rfl Tryd.func12 (by kernel_rfl) rfl #[.string (((((a0 ++ ((⟨#[61, 59, 60, 62, 40, 41, 123, 125, 91, 93, 44, 46, 58, 43, 45]⟩ : ByteArray).extract ((ji18) : Int).toNat ((wrap64 ((ji18) + 1)) : Int).toNat)) ++ t233) ++ (⟨#[34]⟩ : ByteArray)) ++ a3) ++ (⟨#[34]⟩ : ByteArray))] rfl (by (try simp only [List.map_toArray, List.map_cons, List.map_nil]); first | done | (simp only [hji18]; rfl) | rfl | (simp only [List.length_drop, List.length_take]; rfl)) ?_; (with_reducible refine (lexer_Lex.calls (((((a0 ++ ((⟨#[61, 59, 60, 62, 40, 41, 123, 125, 91, 93, 44, 46, 58, 43, 45]⟩ : ByteArray).extract ((ji18) : Int).toNat ((wrap64 ((ji18) + 1)) : Int).toNat)) ++ t233) ++ (⟨#[34]⟩ : ByteArray)) ++ a3) ++ (⟨#[34]⟩ : ByteArray)) t234 t235 t236 _ A27.out).mono ?_); rintro e w40 ⟨v237, rfl, ho0, hb⟩; refine ⟨_, rfl, ?_⟩; have n0_ := Aside0.mk (Kd.R_lower ho0 (below_size (by repeat (first | (with_reducible first | exact HB.out | apply below_alloc | apply pw_below_drewN | apply below_drew1) | exact HB.out)))); have n1_ := Aside0.mk (below_step (by repeat (first | (with_reducible first | exact HB.out | apply below_alloc | apply pw_below_drewN | apply below_drew1) | exact HB.out)) hb); clear HB; have HO238 := n0_; have HB := n1_; clear n0_ n1_; (try clear hb); (try clear hb2); (try clear hk); (try clear hi); (try clear ho0); obtain ⟨Ao41, co41, eo41⟩ := Kd.R_slice HO238.out; subst eo41; have p239 : 0 ≤ (0 : Int) := (by omega); have q239 : 0 < (t234.length : Int) := of_decide_eq_true (by first | (with_reducible assumption) | assumption); obtain ⟨ad239, e239, hx239_0, hx239_1, hx239_2, hx239_3⟩ := at_T30 (Kd.R_reads' HO238.out).2.2 0 p239 q239; cases e239; have qi239 : (0 < t234.length) = True := eq_true (by omega); (try rw [show ((0 : Int)).toNat = 0 from rfl] at hx239_0); (try rw [show 0 * 4 = 0 from rfl] at hx239_0); (try rw [Addr.add_zero'] at hx239_0); (try rw [show ((0 : Int)).toNat = 0 from rfl] at hx239_1); (try rw [show 0 * 4 = 0 from rfl] at hx239_1); (try rw [Addr.add_zero'] at hx239_1); (try rw [show ((0 : Int)).toNat = 0 from rfl] at hx239_2); (try rw [show 0 * 4 = 0 from rfl] at hx239_2); (try rw [Addr.add_zero'] at hx239_2); (try rw [show ((0 : Int)).toNat = 0 from rfl] at hx239_3); (try rw [show 0 * 4 = 0 from rfl] at hx239_3); (try rw [Addr.add_zero'] at hx239_3); replace p239 := eq_true p239; replace q239 := eq_true q239; have p240 : 0 ≤ (1 : Int) := (by omega); have q240 : 1 < (t234.length : Int) := of_decide_eq_true (by first | (with_reducible assumption) | assumption); obtain ⟨ad240, e240, hx240_0, hx240_1, hx240_2, hx240_3⟩ := at_T30 (Kd.R_reads' HO238.out).2.2 1 p240 q240; obtain rfl : ad239 = ad240 := (by injection e240); (try simp only [show (1 : Int).toNat = 1 from rfl, Nat.reduceMul, Nat.reduceEqDiff, Go.Addr.add, ↓reduceIte] at hx240_0); (try simp only [show (1 : Int).toNat = 1 from rfl, Nat.reduceMul, Nat.reduceEqDiff, Go.Addr.add, ↓reduceIte] at hx240_1); (try simp only [show (1 : Int).toNat = 1 from rfl, Nat.reduceMul, Nat.reduceEqDiff, Go.Addr.add, ↓reduceIte] at hx240_2); (try simp only [show (1 : Int).toNat = 1 from rfl, Nat.reduceMul, Nat.reduceEqDiff, Go.Addr.add, ↓reduceIte] at hx240_3); have qi240 : (1 < t234.length) = True := eq_true (by omega); (try rw [show ((1 : Int)).toNat = 1 from rfl] at hx240_0); (try rw [show 1 * 4 = 4 from rfl] at hx240_0); (try rw [show ((1 : Int)).toNat = 1 from rfl] at hx240_1); (try rw [show 1 * 4 = 4 from rfl] at hx240_1); (try rw [show ((1 : Int)).toNat = 1 from rfl] at hx240_2); (try rw [show 1 * 4 = 4 from rfl] at hx240_2); (try rw [show ((1 : Int)).toNat = 1 from rfl] at hx240_3); (try rw [show 1 * 4 = 4 from rfl] at hx240_3); replace p240 := eq_true p240; replace q240 := eq_true q240; have p241 : 0 ≤ (2 : Int) := (by omega); have q241 : 2 < (t234.length : Int) := of_decide_eq_true (by first | (with_reducible assumption) | assumption); obtain ⟨ad241, e241, hx241_0, hx241_1, hx241_2, hx241_3⟩ := at_T30 (Kd.R_reads' HO238.out).2.2 2 p241 q241; obtain rfl : ad239 = ad241 := (by injection e241); (try simp only [show (2 : Int).toNat = 2 from rfl, Nat.reduceMul, Nat.reduceEqDiff, Go.Addr.add, ↓reduceIte] at hx241_0); (try simp only [show (2 : Int).toNat = 2 from rfl, Nat.reduceMul, Nat.reduceEqDiff, Go.Addr.add, ↓reduceIte] at hx241_1); (try simp only [show (2 : Int).toNat = 2 from rfl, Nat.reduceMul, Nat.reduceEqDiff, Go.Addr.add, ↓reduceIte] at hx241_2); (try simp only [show (2 : Int).toNat = 2 from rfl, Nat.reduceMul, Nat.reduceEqDiff, Go.Addr.add, ↓reduceIte] at hx241_3); have qi241 : (2 < t234.length) = True := eq_true (by omega); (try rw [show ((2 : Int)).toNat = 2 from rfl] at hx241_0); (try rw [show 2 * 4 = 8 from rfl] at hx241_0); (try rw [show ((2 : Int)).toNat = 2 from rfl] at hx241_1); (try rw [show 2 * 4 = 8 from rfl] at hx241_1); (try rw [show ((2 : Int)).toNat = 2 from rfl] at hx241_2); (try rw [show 2 * 4 = 8 from rfl] at hx241_2); (try rw [show ((2 : Int)).toNat = 2 from rfl] at hx241_3); (try rw [show 2 * 4 = 8 from rfl] at hx241_3); replace p241 := eq_true p241; replace q241 := eq_true q241))
                                                go_ret
                                                exact ⟨by first | rfl | (simp [errW_none, errW_some] <;> rfl) | (simp only [← hji18]; first | rfl | (simp [errW_none, errW_some] <;> rfl)) | (simp [*, errW_none, errW_some] <;> rfl), by repeat (first | (with_reducible first | exact HB.out | apply below_alloc | apply pw_below_drewN | apply below_drew1) | exact HB.out)⟩
                                            · rw [if_neg c35] at H
                                              exact absurd H (by simp)
                                          · rw [if_neg c34] at H
                                            have c34b0 : (((rd_T30 t234 1).f0) == 4 && (((rd_T30 t234 1).f1) == (a0.size : Int) && (((rd_T30 t234 1).f2) == 0 && ((((rd_T30 t234 1).f3).toList) == (((⟨#[61, 59, 60, 62, 40, 41, 123, 125, 91, 93, 44, 46, 58, 43, 45]⟩ : ByteArray).extract ((ji18) : Int).toNat ((wrap64 ((ji18) + 1)) : Int).toNat).toList))))) = false := by simpa using c34
                                            (try (have c34b1 : decide (((rd_T30 t234 1).f0) = 4 && (((rd_T30 t234 1).f1) == (a0.size : Int) && (((rd_T30 t234 1).f2) == 0 && ((((rd_T30 t234 1).f3).toList) == (((⟨#[61, 59, 60, 62, 40, 41, 123, 125, 91, 93, 44, 46, 58, 43, 45]⟩ : ByteArray).extract ((ji18) : Int).toNat ((wrap64 ((ji18) + 1)) : Int).toNat).toList))))) = false := by simpa using c34))
                                            (try (have c34b2 : (((rd_T30 t234 1).f0) == 4 && (((rd_T30 t234 1).f1) == (a0.size : Int) && (((rd_T30 t234 1).f2) == 0 && ((((rd_T30 t234 1).f3).toList) == (((⟨#[61, 59, 60, 62, 40, 41, 123, 125, 91, 93, 44, 46, 58, 43, 45]⟩ : ByteArray).extract ((ji18) : Int).toNat ((wrap64 ((ji18) + 1)) : Int).toNat).toList))))) = false := by simpa using c34))
                                            (try (have c34b3 : ¬ (((rd_T30 t234 1).f0) = 4 && (((rd_T30 t234 1).f1) == (a0.size : Int) && (((rd_T30 t234 1).f2) == 0 && ((((rd_T30 t234 1).f3).toList) == (((⟨#[61, 59, 60, 62, 40, 41, 123, 125, 91, 93, 44, 46, 58, 43, 45]⟩ : ByteArray).extract ((ji18) : Int).toNat ((wrap64 ((ji18) + 1)) : Int).toNat).toList))))) := by simpa using c34))
                                            clear c34
                                            obtain rfl := Option.some.inj H
                                            go_wp2_with (first | ((with_reducible refine gate_callee (f := 21) rfl ?_); refine goesL_ (some 49) rfl rfl Tryd.func21 (by kernel_rfl) rfl #[.int .i64 (wrap64 (Int.tmod a1 10000000000000))] rfl (by (try simp only [List.map_toArray, List.map_cons, List.map_nil]); first | done | rfl | (simp only [List.length_drop, List.length_take]; rfl)) ?_; (with_reducible refine (customhouseref07_Decimal.calls k2 (wrap64 (Int.tmod a1 10000000000000)) t233 _ A17.out).mono ?_); rintro e w' ⟨rfl, ⟨nd, rfl⟩⟩; refine ⟨_, rfl, ?_⟩) | ((with_reducible refine gate_callee (f := 12) rfl ?_); refine goesL_ (some 68) rfl rfl Tryd.func12 (by kernel_rfl) rfl #[.string (((((a0 ++ ((⟨#[61, 59, 60, 62, 40, 41, 123, 125, 91, 93, 44, 46, 58, 43, 45]⟩ : ByteArray).extract ((ji18) : Int).toNat ((wrap64 ((ji18) + 1)) : Int).toNat)) ++ t233) ++ (⟨#[34]⟩ : ByteArray)) ++ a3) ++ (⟨#[34]⟩ : ByteArray))] rfl (by (try simp only [List.map_toArray, List.map_cons, List.map_nil]); first | done | (simp only [hji18]; rfl) | rfl | (simp only [List.length_drop, List.length_take]; rfl)) ?_; (with_reducible refine (lexer_Lex.calls (((((a0 ++ ((⟨#[61, 59, 60, 62, 40, 41, 123, 125, 91, 93, 44, 46, 58, 43, 45]⟩ : ByteArray).extract ((ji18) : Int).toNat ((wrap64 ((ji18) + 1)) : Int).toNat)) ++ t233) ++ (⟨#[34]⟩ : ByteArray)) ++ a3) ++ (⟨#[34]⟩ : ByteArray)) t234 t235 t236 _ A27.out).mono ?_); rintro e w42 ⟨v237, rfl, ho0, hb⟩; refine ⟨_, rfl, ?_⟩; have n0_ := Aside0.mk (Kd.R_lower ho0 (below_size (by repeat (first | (with_reducible first | exact HB.out | apply below_alloc | apply pw_below_drewN | apply below_drew1) | exact HB.out)))); have n1_ := Aside0.mk (below_step (by repeat (first | (with_reducible first | exact HB.out | apply below_alloc | apply pw_below_drewN | apply below_drew1) | exact HB.out)) hb); clear HB; have HO238 := n0_; have HB := n1_; clear n0_ n1_; (try clear hb); (try clear hb2); (try clear hk); (try clear hi); (try clear ho0); obtain ⟨Ao43, co43, eo43⟩ := Kd.R_slice HO238.out; subst eo43; have p239 : 0 ≤ (0 : Int) := (by omega); have q239 : 0 < (t234.length : Int) := of_decide_eq_true (by first | (with_reducible assumption) | assumption); obtain ⟨ad239, e239, hx239_0, hx239_1, hx239_2, hx239_3⟩ := at_T30 (Kd.R_reads' HO238.out).2.2 0 p239 q239; cases e239; have qi239 : (0 < t234.length) = True := eq_true (by omega); (try rw [show ((0 : Int)).toNat = 0 from rfl] at hx239_0); (try rw [show 0 * 4 = 0 from rfl] at hx239_0); (try rw [Addr.add_zero'] at hx239_0); (try rw [show ((0 : Int)).toNat = 0 from rfl] at hx239_1); (try rw [show 0 * 4 = 0 from rfl] at hx239_1); (try rw [Addr.add_zero'] at hx239_1); (try rw [show ((0 : Int)).toNat = 0 from rfl] at hx239_2); (try rw [show 0 * 4 = 0 from rfl] at hx239_2); (try rw [Addr.add_zero'] at hx239_2); (try rw [show ((0 : Int)).toNat = 0 from rfl] at hx239_3); (try rw [show 0 * 4 = 0 from rfl] at hx239_3); (try rw [Addr.add_zero'] at hx239_3); replace p239 := eq_true p239; replace q239 := eq_true q239; have p240 : 0 ≤ (1 : Int) := (by omega); have q240 : 1 < (t234.length : Int) := of_decide_eq_true (by first | (with_reducible assumption) | assumption); obtain ⟨ad240, e240, hx240_0, hx240_1, hx240_2, hx240_3⟩ := at_T30 (Kd.R_reads' HO238.out).2.2 1 p240 q240; obtain rfl : ad239 = ad240 := (by injection e240); (try simp only [show (1 : Int).toNat = 1 from rfl, Nat.reduceMul, Nat.reduceEqDiff, Go.Addr.add, ↓reduceIte] at hx240_0); (try simp only [show (1 : Int).toNat = 1 from rfl, Nat.reduceMul, Nat.reduceEqDiff, Go.Addr.add, ↓reduceIte] at hx240_1); (try simp only [show (1 : Int).toNat = 1 from rfl, Nat.reduceMul, Nat.reduceEqDiff, Go.Addr.add, ↓reduceIte] at hx240_2); (try simp only [show (1 : Int).toNat = 1 from rfl, Nat.reduceMul, Nat.reduceEqDiff, Go.Addr.add, ↓reduceIte] at hx240_3); have qi240 : (1 < t234.length) = True := eq_true (by omega); (try rw [show ((1 : Int)).toNat = 1 from rfl] at hx240_0); (try rw [show 1 * 4 = 4 from rfl] at hx240_0); (try rw [show ((1 : Int)).toNat = 1 from rfl] at hx240_1); (try rw [show 1 * 4 = 4 from rfl] at hx240_1); (try rw [show ((1 : Int)).toNat = 1 from rfl] at hx240_2); (try rw [show 1 * 4 = 4 from rfl] at hx240_2); (try rw [show ((1 : Int)).toNat = 1 from rfl] at hx240_3); (try rw [show 1 * 4 = 4 from rfl] at hx240_3); replace p240 := eq_true p240; replace q240 := eq_true q240))
                                            go_ret
                                            exact ⟨by first | rfl | (simp [errW_none, errW_some] <;> rfl) | (simp only [← hji18]; first | rfl | (simp [errW_none, errW_some] <;> rfl)) | (simp [*, errW_none, errW_some] <;> rfl), by repeat (first | (with_reducible first | exact HB.out | apply below_alloc | apply pw_below_drewN | apply below_drew1) | exact HB.out)⟩
                                        · replace c33 := Bool.eq_false_iff.mpr c33
                                          subst c33
                                          have H1 : (some false) = some r := by rw [if_neg (show ¬ (false = true) by decide)] at H; exact H
                                          clear H
                                          have H := H1
                                          clear H1
                                          obtain rfl := Option.some.inj H
                                          go_wp2_with (first | ((with_reducible refine gate_callee (f := 21) rfl ?_); refine goesL_ (some 49) rfl rfl Tryd.func21 (by kernel_rfl) rfl #[.int .i64 (wrap64 (Int.tmod a1 10000000000000))] rfl (by (try simp only [List.map_toArray, List.map_cons, List.map_nil]); first | done | rfl | (simp only [List.length_drop, List.length_take]; rfl)) ?_; (with_reducible refine (customhouseref07_Decimal.calls k2 (wrap64 (Int.tmod a1 10000000000000)) t233 _ A17.out).mono ?_); rintro e w' ⟨rfl, ⟨nd, rfl⟩⟩; refine ⟨_, rfl, ?_⟩) | ((with_reducible refine gate_callee (f := 12) rfl ?_); refine goesL_ (some 68) rfl rfl Tryd.func12 (by kernel_rfl) rfl #[.string (((((a0 ++ ((⟨#[61, 59, 60, 62, 40, 41, 123, 125, 91, 93, 44, 46, 58, 43, 45]⟩ : ByteArray).extract ((ji18) : Int).toNat ((wrap64 ((ji18) + 1)) : Int).toNat)) ++ t233) ++ (⟨#[34]⟩ : ByteArray)) ++ a3) ++ (⟨#[34]⟩ : ByteArray))] rfl (by (try simp only [List.map_toArray, List.map_cons, List.map_nil]); first | done | (simp only [hji18]; rfl) | rfl | (simp only [List.length_drop, List.length_take]; rfl)) ?_; (with_reducible refine (lexer_Lex.calls (((((a0 ++ ((⟨#[61, 59, 60, 62, 40, 41, 123, 125, 91, 93, 44, 46, 58, 43, 45]⟩ : ByteArray).extract ((ji18) : Int).toNat ((wrap64 ((ji18) + 1)) : Int).toNat)) ++ t233) ++ (⟨#[34]⟩ : ByteArray)) ++ a3) ++ (⟨#[34]⟩ : ByteArray)) t234 t235 t236 _ A27.out).mono ?_); rintro e w44 ⟨v237, rfl, ho0, hb⟩; refine ⟨_, rfl, ?_⟩; have n0_ := Aside0.mk (Kd.R_lower ho0 (below_size (by repeat (first | (with_reducible first | exact HB.out | apply below_alloc | apply pw_below_drewN | apply below_drew1) | exact HB.out)))); have n1_ := Aside0.mk (below_step (by repeat (first | (with_reducible first | exact HB.out | apply below_alloc | apply pw_below_drewN | apply below_drew1) | exact HB.out)) hb); clear HB; have HO238 := n0_; have HB := n1_; clear n0_ n1_; (try clear hb); (try clear hb2); (try clear hk); (try clear hi); (try clear ho0); obtain ⟨Ao45, co45, eo45⟩ := Kd.R_slice HO238.out; subst eo45; have p239 : 0 ≤ (0 : Int) := (by omega); have q239 : 0 < (t234.length : Int) := of_decide_eq_true (by first | (with_reducible assumption) | assumption); obtain ⟨ad239, e239, hx239_0, hx239_1, hx239_2, hx239_3⟩ := at_T30 (Kd.R_reads' HO238.out).2.2 0 p239 q239; cases e239; have qi239 : (0 < t234.length) = True := eq_true (by omega); (try rw [show ((0 : Int)).toNat = 0 from rfl] at hx239_0); (try rw [show 0 * 4 = 0 from rfl] at hx239_0); (try rw [Addr.add_zero'] at hx239_0); (try rw [show ((0 : Int)).toNat = 0 from rfl] at hx239_1); (try rw [show 0 * 4 = 0 from rfl] at hx239_1); (try rw [Addr.add_zero'] at hx239_1); (try rw [show ((0 : Int)).toNat = 0 from rfl] at hx239_2); (try rw [show 0 * 4 = 0 from rfl] at hx239_2); (try rw [Addr.add_zero'] at hx239_2); (try rw [show ((0 : Int)).toNat = 0 from rfl] at hx239_3); (try rw [show 0 * 4 = 0 from rfl] at hx239_3); (try rw [Addr.add_zero'] at hx239_3); replace p239 := eq_true p239; replace q239 := eq_true q239; have p240 : 0 ≤ (1 : Int) := (by omega); have q240 : 1 < (t234.length : Int) := of_decide_eq_true (by first | (with_reducible assumption) | assumption); obtain ⟨ad240, e240, hx240_0, hx240_1, hx240_2, hx240_3⟩ := at_T30 (Kd.R_reads' HO238.out).2.2 1 p240 q240; obtain rfl : ad239 = ad240 := (by injection e240); (try simp only [show (1 : Int).toNat = 1 from rfl, Nat.reduceMul, Nat.reduceEqDiff, Go.Addr.add, ↓reduceIte] at hx240_0); (try simp only [show (1 : Int).toNat = 1 from rfl, Nat.reduceMul, Nat.reduceEqDiff, Go.Addr.add, ↓reduceIte] at hx240_1); (try simp only [show (1 : Int).toNat = 1 from rfl, Nat.reduceMul, Nat.reduceEqDiff, Go.Addr.add, ↓reduceIte] at hx240_2); (try simp only [show (1 : Int).toNat = 1 from rfl, Nat.reduceMul, Nat.reduceEqDiff, Go.Addr.add, ↓reduceIte] at hx240_3); have qi240 : (1 < t234.length) = True := eq_true (by omega); (try rw [show ((1 : Int)).toNat = 1 from rfl] at hx240_0); (try rw [show 1 * 4 = 4 from rfl] at hx240_0); (try rw [show ((1 : Int)).toNat = 1 from rfl] at hx240_1); (try rw [show 1 * 4 = 4 from rfl] at hx240_1); (try rw [show ((1 : Int)).toNat = 1 from rfl] at hx240_2); (try rw [show 1 * 4 = 4 from rfl] at hx240_2); (try rw [show ((1 : Int)).toNat = 1 from rfl] at hx240_3); (try rw [show 1 * 4 = 4 from rfl] at hx240_3); replace p240 := eq_true p240; replace q240 := eq_true q240))
                                          go_ret
                                          exact ⟨by first | rfl | (simp [errW_none, errW_some] <;> rfl) | (simp only [← hji18]; first | rfl | (simp [errW_none, errW_some] <;> rfl)) | (simp [*, errW_none, errW_some] <;> rfl), by repeat (first | (with_reducible first | exact HB.out | apply below_alloc | apply pw_below_drewN | apply below_drew1) | exact HB.out)⟩
                                      · rw [if_neg c32] at H
                                        exact absurd H (by simp)
                                    · rw [if_neg c31] at H
                                      have c31b0 : (((rd_T30 t234 0).f0) == 1 && (((rd_T30 t234 0).f1) == 0 && (((rd_T30 t234 0).f2) == 0 && ((((rd_T30 t234 0).f3).toList) == a0.toList)))) = false := by simpa using c31
                                      (try (have c31b1 : decide (((rd_T30 t234 0).f0) = 1 && (((rd_T30 t234 0).f1) == 0 && (((rd_T30 t234 0).f2) == 0 && ((((rd_T30 t234 0).f3).toList) == a0.toList)))) = false := by simpa using c31))
                                      (try (have c31b2 : (((rd_T30 t234 0).f0) == 1 && (((rd_T30 t234 0).f1) == 0 && (((rd_T30 t234 0).f2) == 0 && ((((rd_T30 t234 0).f3).toList) == a0.toList)))) = false := by simpa using c31))
                                      (try (have c31b3 : ¬ (((rd_T30 t234 0).f0) = 1 && (((rd_T30 t234 0).f1) == 0 && (((rd_T30 t234 0).f2) == 0 && ((((rd_T30 t234 0).f3).toList) == a0.toList)))) := by simpa using c31))
                                      clear c31
                                      by_cases c46 : t231 = true
                                      · subst c46
                                        have H1 : (some false) = some r := by rw [if_pos rfl] at H; exact H
                                        clear H
                                        have H := H1
                                        clear H1
                                        obtain rfl := Option.some.inj H
                                        go_wp2_with (first | ((with_reducible refine gate_callee (f := 21) rfl ?_); refine goesL_ (some 49) rfl rfl Tryd.func21 (by kernel_rfl) rfl #[.int .i64 (wrap64 (Int.tmod a1 10000000000000))] rfl (by (try simp only [List.map_toArray, List.map_cons, List.map_nil]); first | done | rfl | (simp only [List.length_drop, List.length_take]; rfl)) ?_; (with_reducible refine (customhouseref07_Decimal.calls k2 (wrap64 (Int.tmod a1 10000000000000)) t233 _ A17.out).mono ?_); rintro e w' ⟨rfl, ⟨nd, rfl⟩⟩; refine ⟨_, rfl, ?_⟩) | ((with_reducible refine gate_callee (f := 12) rfl ?_); refine goesL_ (some 68) rfl rfl Tryd.func12 (by kernel_rfl) rfl #[.string (((((a0 ++ ((⟨#[61, 59, 60, 62, 40, 41, 123, 125, 91, 93, 44, 46, 58, 43, 45]⟩ : ByteArray).extract ((ji18) : Int).toNat ((wrap64 ((ji18) + 1)) : Int).toNat)) ++ t233) ++ (⟨#[34]⟩ : ByteArray)) ++ a3) ++ (⟨#[34]⟩ : ByteArray))] rfl (by (try simp only [List.map_toArray, List.map_cons, List.map_nil]); first | done | (simp only [hji18]; rfl) | rfl | (simp only [List.length_drop, List.length_take]; rfl)) ?_; (with_reducible refine (lexer_Lex.calls (((((a0 ++ ((⟨#[61, 59, 60, 62, 40, 41, 123, 125, 91, 93, 44, 46, 58, 43, 45]⟩ : ByteArray).extract ((ji18) : Int).toNat ((wrap64 ((ji18) + 1)) : Int).toNat)) ++ t233) ++ (⟨#[34]⟩ : ByteArray)) ++ a3) ++ (⟨#[34]⟩ : ByteArray)) t234 t235 t236 _ A27.out).mono ?_); rintro e w47 ⟨v237, rfl, ho0, hb⟩; refine ⟨_, rfl, ?_⟩; have n0_ := Aside0.mk (Kd.R_lower ho0 (below_size (by repeat (first | (with_reducible first | exact HB.out | apply below_alloc | apply pw_below_drewN | apply below_drew1) | exact HB.out)))); have n1_ := Aside0.mk (below_step (by repeat (first | (with_reducible first | exact HB.out | apply below_alloc | apply pw_below_drewN | apply below_drew1) | exact HB.out)) hb); clear HB; have HO238 := n0_; have HB := n1_; clear n0_ n1_; (try clear hb); (try clear hb2); (try clear hk); (try clear hi); (try clear ho0); obtain ⟨Ao48, co48, eo48⟩ := Kd.R_slice HO238.out; subst eo48; have p239 : 0 ≤ (0 : Int) := (by omega); have q239 : 0 < (t234.length : Int) := of_decide_eq_true (by first | (with_reducible assumption) | assumption); obtain ⟨ad239, e239, hx239_0, hx239_1, hx239_2, hx239_3⟩ := at_T30 (Kd.R_reads' HO238.out).2.2 0 p239 q239; cases e239; have qi239 : (0 < t234.length) = True := eq_true (by omega); (try rw [show ((0 : Int)).toNat = 0 from rfl] at hx239_0); (try rw [show 0 * 4 = 0 from rfl] at hx239_0); (try rw [Addr.add_zero'] at hx239_0); (try rw [show ((0 : Int)).toNat = 0 from rfl] at hx239_1); (try rw [show 0 * 4 = 0 from rfl] at hx239_1); (try rw [Addr.add_zero'] at hx239_1); (try rw [show ((0 : Int)).toNat = 0 from rfl] at hx239_2); (try rw [show 0 * 4 = 0 from rfl] at hx239_2); (try rw [Addr.add_zero'] at hx239_2); (try rw [show ((0 : Int)).toNat = 0 from rfl] at hx239_3); (try rw [show 0 * 4 = 0 from rfl] at hx239_3); (try rw [Addr.add_zero'] at hx239_3); replace p239 := eq_true p239; replace q239 := eq_true q239))
                                        go_ret
                                        exact ⟨by first | rfl | (simp [errW_none, errW_some] <;> rfl) | (simp only [← hji18]; first | rfl | (simp [errW_none, errW_some] <;> rfl)) | (simp [*, errW_none, errW_some] <;> rfl), by repeat (first | (with_reducible first | exact HB.out | apply below_alloc | apply pw_below_drewN | apply below_drew1) | exact HB.out)⟩
                                      · replace c46 := Bool.eq_false_iff.mpr c46
                                        subst c46
                                        have H1 : (some false) = some r := by rw [if_neg (show ¬ (false = true) by decide)] at H; exact H
                                        clear H
                                        have H := H1
                                        clear H1
                                        obtain rfl := Option.some.inj H
                                        go_wp2_with (first | ((with_reducible refine gate_callee (f := 21) rfl ?_); refine goesL_ (some 49) rfl rfl Tryd.func21 (by kernel_rfl) rfl #[.int .i64 (wrap64 (Int.tmod a1 10000000000000))] rfl (by (try simp only [List.map_toArray, List.map_cons, List.map_nil]); first | done | rfl | (simp only [List.length_drop, List.length_take]; rfl)) ?_; (with_reducible refine (customhouseref07_Decimal.calls k2 (wrap64 (Int.tmod a1 10000000000000)) t233 _ A17.out).mono ?_); rintro e w' ⟨rfl, ⟨nd, rfl⟩⟩; refine ⟨_, rfl, ?_⟩) | ((with_reducible refine gate_callee (f := 12) rfl ?_); refine goesL_ (some 68) rfl rfl Tryd.func12 (by kernel_rfl) rfl #[.string (((((a0 ++ ((⟨#[61, 59, 60, 62, 40, 41, 123, 125, 91, 93, 44, 46, 58, 43, 45]⟩ : ByteArray).extract ((ji18) : Int).toNat ((wrap64 ((ji18) + 1)) : Int).toNat)) ++ t233) ++ (⟨#[34]⟩ : ByteArray)) ++ a3) ++ (⟨#[34]⟩ : ByteArray))] rfl (by (try simp only [List.map_toArray, List.map_cons, List.map_nil]); first | done | (simp only [hji18]; rfl) | rfl | (simp only [List.length_drop, List.length_take]; rfl)) ?_; (with_reducible refine (lexer_Lex.calls (((((a0 ++ ((⟨#[61, 59, 60, 62, 40, 41, 123, 125, 91, 93, 44, 46, 58, 43, 45]⟩ : ByteArray).extract ((ji18) : Int).toNat ((wrap64 ((ji18) + 1)) : Int).toNat)) ++ t233) ++ (⟨#[34]⟩ : ByteArray)) ++ a3) ++ (⟨#[34]⟩ : ByteArray)) t234 t235 t236 _ A27.out).mono ?_); rintro e w49 ⟨v237, rfl, ho0, hb⟩; refine ⟨_, rfl, ?_⟩; have n0_ := Aside0.mk (Kd.R_lower ho0 (below_size (by repeat (first | (with_reducible first | exact HB.out | apply below_alloc | apply pw_below_drewN | apply below_drew1) | exact HB.out)))); have n1_ := Aside0.mk (below_step (by repeat (first | (with_reducible first | exact HB.out | apply below_alloc | apply pw_below_drewN | apply below_drew1) | exact HB.out)) hb); clear HB; have HO238 := n0_; have HB := n1_; clear n0_ n1_; (try clear hb); (try clear hb2); (try clear hk); (try clear hi); (try clear ho0); obtain ⟨Ao50, co50, eo50⟩ := Kd.R_slice HO238.out; subst eo50; have p239 : 0 ≤ (0 : Int) := (by omega); have q239 : 0 < (t234.length : Int) := of_decide_eq_true (by first | (with_reducible assumption) | assumption); obtain ⟨ad239, e239, hx239_0, hx239_1, hx239_2, hx239_3⟩ := at_T30 (Kd.R_reads' HO238.out).2.2 0 p239 q239; cases e239; have qi239 : (0 < t234.length) = True := eq_true (by omega); (try rw [show ((0 : Int)).toNat = 0 from rfl] at hx239_0); (try rw [show 0 * 4 = 0 from rfl] at hx239_0); (try rw [Addr.add_zero'] at hx239_0); (try rw [show ((0 : Int)).toNat = 0 from rfl] at hx239_1); (try rw [show 0 * 4 = 0 from rfl] at hx239_1); (try rw [Addr.add_zero'] at hx239_1); (try rw [show ((0 : Int)).toNat = 0 from rfl] at hx239_2); (try rw [show 0 * 4 = 0 from rfl] at hx239_2); (try rw [Addr.add_zero'] at hx239_2); (try rw [show ((0 : Int)).toNat = 0 from rfl] at hx239_3); (try rw [show 0 * 4 = 0 from rfl] at hx239_3); (try rw [Addr.add_zero'] at hx239_3); replace p239 := eq_true p239; replace q239 := eq_true q239))
                                        go_ret
                                        exact ⟨by first | rfl | (simp [errW_none, errW_some] <;> rfl) | (simp only [← hji18]; first | rfl | (simp [errW_none, errW_some] <;> rfl)) | (simp [*, errW_none, errW_some] <;> rfl), by repeat (first | (with_reducible first | exact HB.out | apply below_alloc | apply pw_below_drewN | apply below_drew1) | exact HB.out)⟩
                                  · rw [if_neg c30] at H
                                    exact absurd H (by simp)
                                · rw [if_neg c29] at H
                                  have c29b0 : ((t234.length : Int) == 4) = false := beq_eq_false_iff_ne.mpr c29
                                  have c29b1 : ((t234.length : Int) != 4) = true := bne_iff_ne.mpr c29
                                  obtain rfl := Option.some.inj H
                                  go_wp2_with (first | ((with_reducible refine gate_callee (f := 21) rfl ?_); refine goesL_ (some 49) rfl rfl Tryd.func21 (by kernel_rfl) rfl #[.int .i64 (wrap64 (Int.tmod a1 10000000000000))] rfl (by (try simp only [List.map_toArray, List.map_cons, List.map_nil]); first | done | rfl | (simp only [List.length_drop, List.length_take]; rfl)) ?_; (with_reducible refine (customhouseref07_Decimal.calls k2 (wrap64 (Int.tmod a1 10000000000000)) t233 _ A17.out).mono ?_); rintro e w' ⟨rfl, ⟨nd, rfl⟩⟩; refine ⟨_, rfl, ?_⟩) | ((with_reducible refine gate_callee (f := 12) rfl ?_); refine goesL_ (some 68) rfl rfl Tryd.func12 (by kernel_rfl) rfl #[.string (((((a0 ++ ((⟨#[61, 59, 60, 62, 40, 41, 123, 125, 91, 93, 44, 46, 58, 43, 45]⟩ : ByteArray).extract ((ji18) : Int).toNat ((wrap64 ((ji18) + 1)) : Int).toNat)) ++ t233) ++ (⟨#[34]⟩ : ByteArray)) ++ a3) ++ (⟨#[34]⟩ : ByteArray))] rfl (by (try simp only [List.map_toArray, List.map_cons, List.map_nil]); first | done | (simp only [hji18]; rfl) | rfl | (simp only [List.length_drop, List.length_take]; rfl)) ?_; (with_reducible refine (lexer_Lex.calls (((((a0 ++ ((⟨#[61, 59, 60, 62, 40, 41, 123, 125, 91, 93, 44, 46, 58, 43, 45]⟩ : ByteArray).extract ((ji18) : Int).toNat ((wrap64 ((ji18) + 1)) : Int).toNat)) ++ t233) ++ (⟨#[34]⟩ : ByteArray)) ++ a3) ++ (⟨#[34]⟩ : ByteArray)) t234 t235 t236 _ A27.out).mono ?_); rintro e w51 ⟨v237, rfl, ho0, hb⟩; refine ⟨_, rfl, ?_⟩; have n0_ := Aside0.mk (Kd.R_lower ho0 (below_size (by repeat (first | (with_reducible first | exact HB.out | apply below_alloc | apply pw_below_drewN | apply below_drew1) | exact HB.out)))); have n1_ := Aside0.mk (below_step (by repeat (first | (with_reducible first | exact HB.out | apply below_alloc | apply pw_below_drewN | apply below_drew1) | exact HB.out)) hb); clear HB; have HO238 := n0_; have HB := n1_; clear n0_ n1_; (try clear hb); (try clear hb2); (try clear hk); (try clear hi); (try clear ho0); obtain ⟨Ao52, co52, eo52⟩ := Kd.R_slice HO238.out; subst eo52))
                                  go_ret
                                  exact ⟨by first | rfl | (simp [errW_none, errW_some] <;> rfl) | (simp only [← hji18]; first | rfl | (simp [errW_none, errW_some] <;> rfl)) | (simp [*, errW_none, errW_some] <;> rfl), by repeat (first | (with_reducible first | exact HB.out | apply below_alloc | apply pw_below_drewN | apply below_drew1) | exact HB.out)⟩
                              · rw [if_neg c28] at H
                                have c28b0 : (t235 == 0) = false := beq_eq_false_iff_ne.mpr c28
                                have c28b1 : (t235 != 0) = true := bne_iff_ne.mpr c28
                                obtain rfl := Option.some.inj H
                                go_wp2_with (first | ((with_reducible refine gate_callee (f := 21) rfl ?_); refine goesL_ (some 49) rfl rfl Tryd.func21 (by kernel_rfl) rfl #[.int .i64 (wrap64 (Int.tmod a1 10000000000000))] rfl (by (try simp only [List.map_toArray, List.map_cons, List.map_nil]); first | done | rfl | (simp only [List.length_drop, List.length_take]; rfl)) ?_; (with_reducible refine (customhouseref07_Decimal.calls k2 (wrap64 (Int.tmod a1 10000000000000)) t233 _ A17.out).mono ?_); rintro e w' ⟨rfl, ⟨nd, rfl⟩⟩; refine ⟨_, rfl, ?_⟩) | ((with_reducible refine gate_callee (f := 12) rfl ?_); refine goesL_ (some 68) rfl rfl Tryd.func12 (by kernel_rfl) rfl #[.string (((((a0 ++ ((⟨#[61, 59, 60, 62, 40, 41, 123, 125, 91, 93, 44, 46, 58, 43, 45]⟩ : ByteArray).extract ((ji18) : Int).toNat ((wrap64 ((ji18) + 1)) : Int).toNat)) ++ t233) ++ (⟨#[34]⟩ : ByteArray)) ++ a3) ++ (⟨#[34]⟩ : ByteArray))] rfl (by (try simp only [List.map_toArray, List.map_cons, List.map_nil]); first | done | (simp only [hji18]; rfl) | rfl | (simp only [List.length_drop, List.length_take]; rfl)) ?_; (with_reducible refine (lexer_Lex.calls (((((a0 ++ ((⟨#[61, 59, 60, 62, 40, 41, 123, 125, 91, 93, 44, 46, 58, 43, 45]⟩ : ByteArray).extract ((ji18) : Int).toNat ((wrap64 ((ji18) + 1)) : Int).toNat)) ++ t233) ++ (⟨#[34]⟩ : ByteArray)) ++ a3) ++ (⟨#[34]⟩ : ByteArray)) t234 t235 t236 _ A27.out).mono ?_); rintro e w53 ⟨v237, rfl, ho0, hb⟩; refine ⟨_, rfl, ?_⟩; have n0_ := Aside0.mk (Kd.R_lower ho0 (below_size (by repeat (first | (with_reducible first | exact HB.out | apply below_alloc | apply pw_below_drewN | apply below_drew1) | exact HB.out)))); have n1_ := Aside0.mk (below_step (by repeat (first | (with_reducible first | exact HB.out | apply below_alloc | apply pw_below_drewN | apply below_drew1) | exact HB.out)) hb); clear HB; have HO238 := n0_; have HB := n1_; clear n0_ n1_; (try clear hb); (try clear hb2); (try clear hk); (try clear hi); (try clear ho0)))
                                go_ret
                                exact ⟨by first | rfl | (simp [errW_none, errW_some] <;> rfl) | (simp only [← hji18]; first | rfl | (simp [errW_none, errW_some] <;> rfl)) | (simp [*, errW_none, errW_some] <;> rfl), by repeat (first | (with_reducible first | exact HB.out | apply below_alloc | apply pw_below_drewN | apply below_drew1) | exact HB.out)⟩
                            · rw [if_neg c26] at H
                              exact absurd H (by simp)
                          · rw [if_neg c25] at H
                            exact absurd H (by simp)
                        · rw [if_neg c24] at H
                          exact absurd H (by simp)
                      · rw [if_neg c23] at H
                        exact absurd H (by simp)
                    · rw [if_neg c22] at H
                      exact absurd H (by simp)
                  · rw [if_neg c21] at H
                    exact absurd H (by simp)
                · rw [if_neg c20] at H
                  exact absurd H (by simp)
              · rw [if_neg c19] at H
                exact absurd H (by simp)

/-- THE ONE PURE STATEMENT of customhouselaw07_LexerWords: yours. -/
def customhouselaw07_LexerWords.Pure : Prop := ∀ (a0 : ByteArray) (a1 : Int) (a2 : Int) (a3 : ByteArray), a0.size ≤ 140737488351232 → (Lit.int .u64 a1).wf = true → (Lit.int .u8 a2).wf = true → a3.size ≤ 140737488351232 → ∃ k, customhouselaw07_LexerWords.f k a0 a1 a2 a3 = some true
theorem customhouselaw07_LexerWords.walk (P : customhouselaw07_LexerWords.Pure) (a0 : ByteArray) (a1 : Int) (a2 : Int) (a3 : ByteArray) (w : World) (w0 : a0.size ≤ 140737488351232) (w1 : (Lit.int .u64 a1).wf = true) (w2 : (Lit.int .u8 a2).wf = true) (w3 : a3.size ≤ 140737488351232) :
    Calls Tryd.prog 10 #[.string a0, .int .u64 a1, .int .u8 a2, .string a3] w fun e w' => e = .returned (.bool true) ∧ Below w.heap.size w w' := by
  obtain ⟨k, h⟩ := P a0 a1 a2 a3 w0 w1 w2 w3
  refine (customhouselaw07_LexerWords.calls k a0 a1 a2 a3 true w h).mono ?_
  rintro e w' ⟨rfl, hd⟩
  exact ⟨rfl, hd⟩

end Go.Proofs.YtalgccjkfanaoaaDoor.PL
