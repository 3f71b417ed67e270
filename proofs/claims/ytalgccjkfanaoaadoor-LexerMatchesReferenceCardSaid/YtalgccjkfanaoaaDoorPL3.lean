-- Written by a program of this session (handprint.py) for this claim.
import Derived.Test.YtalgccjkfanaoaaDoorPL0
import Derived.Test.YtalgccjkfanaoaaDoorPL1
namespace Go.Proofs.YtalgccjkfanaoaaDoor.PL
open Go.RowKit Go.Proofs.YtalgccjkfanaoaaDoorW.PrintWords Go.Proofs.YtalgccjkfanaoaaDoorW.PrintLast Go.Proofs.YtalgccjkfanaoaaDoorW.PrintMore
attribute [local go_sem] max2_int min2_int max_two min_two max_three min_three max_four min_four   -- for this text's walks alone
set_option linter.unusedVariables false
set_option linter.unusedSimpArgs false

attribute [local go_sem high] eqA30
theorem at_world {P : Program} {c : Code} {K : Exit → Act → World → Prop} {a : Act} {w0 : World} (F : World → Prop) (h0 : F w0) (h : ∀ w', F w' → Code.wp P c K a w') : Code.wp P c K a w0 := h w0 h0
/-! ### customhouseref07_Same: function 14 -/
def customhouseref07_Same.l0 : Nat → List (S30) → Int → List (S30) → Int → Option (Bool)
  | 0, _, _, _, _ => none
  | k + 1, x0, x1, x2, x7 => if x7 < (x0.length : Int) then (if 0 ≤ x7 then (if x7 < (x2.length : Int) then (if (!(((rd_T30 x0 x7).f0) == ((rd_T30 x2 x7).f0)) || (!((wrap64 (((rd_T30 x0 x7).f1) + x1)) == ((rd_T30 x2 x7).f1)) || (!(((rd_T30 x0 x7).f2) == ((rd_T30 x2 x7).f2)) || (!((((rd_T30 x0 x7).f3).toList) == (((rd_T30 x2 x7).f3).toList)))))) = true then (some false) else (customhouseref07_Same.l0 k x0 x1 x2 (wrap64 (x7 + 1)))) else (none)) else (none)) else (some true)
def customhouseref07_Same.f (k : Nat) (l0 : List (S30)) (a1 : Int) (l2 : List (S30)) : Option (Bool) := if (l0.length : Int) = (l2.length : Int) then (customhouseref07_Same.l0 k l0 a1 l2 0) else (some false)
theorem customhouseref07_Same.mono_l : ∀ k, (∀ y0 y1 y2 y3, LeO (customhouseref07_Same.l0 k y0 y1 y2 y3) (customhouseref07_Same.l0 (k + 1) y0 y1 y2 y3))
  | 0 => fun _ _ _ _ r h => by simp [customhouseref07_Same.l0] at h
  | k + 1 => by
    have ih0 := customhouseref07_Same.mono_l k
    · intro y0 y1 y2 y3
      unfold customhouseref07_Same.l0
      repeat' first
      | (with_reducible exact ih0 _ _ _ _)
      | (with_reducible exact LeO.refl _)
      | (with_reducible exact LeO.none _)
      | (with_reducible refine LeO.ite ?_ ?_)
      | (with_reducible refine LeO.bind ?_ (fun _ => ?_))
      | exact ih0 _ _ _ _
      | exact LeO.none _
      | refine LeO.ite ?_ ?_
      | refine LeO.bind ?_ (fun _ => ?_)
theorem customhouseref07_Same.mono : ∀ a0 a1 a2 k, LeO (customhouseref07_Same.f k a0 a1 a2) (customhouseref07_Same.f (k + 1) a0 a1 a2) := by
  intro a0 a1 a2 k
  have ih0 := customhouseref07_Same.mono_l k
  unfold customhouseref07_Same.f
  repeat' first
      | (with_reducible exact ih0 _ _ _ _)
      | (with_reducible exact LeO.refl _)
      | (with_reducible exact LeO.none _)
      | (with_reducible refine LeO.ite ?_ ?_)
      | (with_reducible refine LeO.bind ?_ (fun _ => ?_))
      | exact ih0 _ _ _ _
      | exact LeO.none _
      | refine LeO.ite ?_ ?_
      | refine LeO.bind ?_ (fun _ => ?_)
set_option maxHeartbeats 80000000 in
set_option maxRecDepth 100000 in
theorem customhouseref07_Same.calls (k : Nat) (A0 : Option Addr) (c0 : Nat) (l0 : List (S30)) (a1 : Int) (A2 : Option Addr) (c2 : Nat) (l2 : List (S30)) (r : Bool) (w : World) (hr0 : Kd.C k30 w A0 l0.length l0) (hc0 : l0.length ≤ c0) (hr2 : Kd.C k30 w A2 l2.length l2) (hc2 : l2.length ≤ c2) (h : customhouseref07_Same.f k l0 a1 l2 = some r) :
    Calls Tryd.prog 14 #[.slice A0 l0.length c0, .int .i64 a1, .slice A2 l2.length c2] w fun e w' => e = .returned (.bool r) ∧ Below w.heap.size w w' := by
  have hu30 := Tryd.underlying30
  have HR0 := Aside0.mk hr0
  have HC0 := Aside0.mk hc0
  clear hr0 hc0
  have HR2 := Aside0.mk hr2
  have HC2 := Aside0.mk hc2
  clear hr2 hc2
  have HB := Aside0.mk (Below.refl w.heap.size w)
  have H : (if (l0.length : Int) = (l2.length : Int) then (customhouseref07_Same.l0 k l0 a1 l2 0) else (some false)) = some r := h
  clear h
  by_cases c4 : (l0.length : Int) = (l2.length : Int)
  · rw [if_pos c4] at H
    have c4b0 : ((l0.length : Int) == (l2.length : Int)) = true := beq_iff_eq.mpr c4
    have c4b1 : ((l0.length : Int) != (l2.length : Int)) = false := bne_eq_false_iff_eq.mpr c4
    have c4b2 : (l0.length == l2.length) = true := by first | simpa using c4 | (simp at c4 ⊢; omega)
    clear c4
    have H' := Aside0.mk H
    clear H
    go_enter Tryd.func14, Tryd.ntmps14
    go_wp2
    repeat (go_quiet (fail); try go_wp2)
    go_loopg [7] k (fun kq v7 w' => ∃ (x7_1 : Int), v7 = .int .i64 x7_1 ∧ Aside0 (customhouseref07_Same.l0 kq l0 a1 l2 x7_1 = some r) ∧ Aside0 (kq ≤ k) ∧ Aside0 (Below w.heap.size w w'))
    case atStart => exact ⟨(0), (by first | rfl | (simp; done) | (simp [*]; done)), H', ⟨Nat.le_refl _⟩, ⟨by repeat (first | (with_reducible first | exact HB.out | apply below_alloc | apply pw_below_drewN | apply below_drew1) | exact HB.out)⟩⟩
    case round =>
      clear H'
      try clear c1
      try clear c2
      try clear p2
      try clear c4
      try clear c4b0
      try clear c4b1
      try clear c4b2
      obtain ⟨x7_1, rfl, HA, HK1, HB⟩ := hrel
      cases gk with
      | zero => exact absurd HA.out (by simp [customhouseref07_Same.l0])
      | succ k1 =>
        have H := HA.out
        clear HA
        simp only [customhouseref07_Same.l0] at H
        by_cases c5 : x7_1 < (l0.length : Int)
        · rw [if_pos c5] at H
          have c5b0 : decide (x7_1 < (l0.length : Int)) = true := decide_eq_true c5
          clear c5
          by_cases c6 : 0 ≤ x7_1
          · rw [if_pos c6] at H
            have c6b0 : decide (0 ≤ x7_1) = true := decide_eq_true c6
            clear c6
            by_cases c7 : x7_1 < (l2.length : Int)
            · rw [if_pos c7] at H
              have c7b0 : decide (x7_1 < (l2.length : Int)) = true := decide_eq_true c7
              clear c7
              by_cases c8 : (!(((rd_T30 l0 x7_1).f0) == ((rd_T30 l2 x7_1).f0)) || (!((wrap64 (((rd_T30 l0 x7_1).f1) + a1)) == ((rd_T30 l2 x7_1).f1)) || (!(((rd_T30 l0 x7_1).f2) == ((rd_T30 l2 x7_1).f2)) || (!((((rd_T30 l0 x7_1).f3).toList) == (((rd_T30 l2 x7_1).f3).toList)))))) = true
              · rw [if_pos c8] at H
                have c8b0 : (!(((rd_T30 l0 x7_1).f0) == ((rd_T30 l2 x7_1).f0)) || (!((wrap64 (((rd_T30 l0 x7_1).f1) + a1)) == ((rd_T30 l2 x7_1).f1)) || (!(((rd_T30 l0 x7_1).f2) == ((rd_T30 l2 x7_1).f2)) || (!((((rd_T30 l0 x7_1).f3).toList) == (((rd_T30 l2 x7_1).f3).toList)))))) = true := c8
                clear c8
                obtain rfl := Option.some.inj H
                have p126 : 0 ≤ (x7_1 : Int) := of_decide_eq_true (by first | (with_reducible assumption) | assumption)
                have q126 : x7_1 < (l0.length : Int) := of_decide_eq_true (by first | (with_reducible assumption) | assumption)
                obtain ⟨ad126, e126, hx126_0, hx126_1, hx126_2, hx126_3⟩ := at_T30 HR0.out x7_1 p126 q126
                cases e126
                replace hx126_0 := (HB.out.cell (World.block_lt_of_cell? w _ hx126_0)).trans hx126_0
                replace hx126_1 := (HB.out.cell (World.block_lt_of_cell? w _ hx126_1)).trans hx126_1
                replace hx126_2 := (HB.out.cell (World.block_lt_of_cell? w _ hx126_2)).trans hx126_2
                replace hx126_3 := (HB.out.cell (World.block_lt_of_cell? w _ hx126_3)).trans hx126_3
                replace p126 := eq_true p126
                replace q126 := eq_true q126
                go_upto_region 8 with (first | ((with_reducible refine gate_dst (N := 8) rfl ?_); refine box_event ?hg (N := 8) ?hd (cs := #[.int .i64 0, .int .i64 0, .int .i64 0, .string (⟨#[]⟩ : ByteArray)]) (t := 30) ?hr ?_; (case hd => rfl); (case hg => rfl); (case hr => first | (go_simp; done) | (go_simp; rfl)); intro gb127 hg w9 hbox hb; have n0_ := Aside0.mk (below_step (by repeat (first | (with_reducible first | exact HB.out | apply below_alloc | apply pw_below_drewN | apply below_drew1) | exact HB.out)) hb); have n1_ := Aside0.mk (hbox); have n2_ := Aside0.mk ((by rw [hg]; exact (below_size (by repeat (first | (with_reducible first | exact HB.out | apply below_alloc | apply pw_below_drewN | apply below_drew1) | exact HB.out))) : w.heap.size ≤ gb127)); have n3_ := Aside0.mk ((by rw [hg]; exact (below_size (by repeat (first | (with_reducible first | exact HB.out | apply below_alloc | apply pw_below_drewN | apply below_drew1) | exact HB.out))) : w.heap.size ≤ gb127)); clear HB; have HB := n0_; have BK127 := n1_; have GW127 := n2_; have GE127 := n3_; clear n0_ n1_ n2_ n3_; clear hb hbox hg; have hcz10_0 : w9.cell? ⟨gb127, 0, none⟩ = some (.int .i64 0) := (blk_cell BK127.out 0).trans rfl; have hcz10_1 : w9.cell? ⟨gb127, 1, none⟩ = some (.int .i64 0) := (blk_cell BK127.out 1).trans rfl; have hcz10_2 : w9.cell? ⟨gb127, 2, none⟩ = some (.int .i64 0) := (blk_cell BK127.out 2).trans rfl; have hcz10_3 : w9.cell? ⟨gb127, 3, none⟩ = some (.string (⟨#[]⟩ : ByteArray)) := (blk_cell BK127.out 3).trans rfl; have hfz10_0 := blk_frozen BK127.out 0; have hfz10_1 := blk_frozen BK127.out 1; have hfz10_2 := blk_frozen BK127.out 2; have hfz10_3 := blk_frozen BK127.out 3))
                refine at_world (F := fun w' => Below w.heap.size w w' ∧ w'.cell? ⟨gb127, 0, none⟩ = some (.int .i64 (rd_T30 l0 x7_1).f0) ∧ w'.cell? ⟨gb127, 1, none⟩ = some (.int .i64 (wrap64 ((rd_T30 l0 x7_1).f1 + a1))) ∧ w'.cell? ⟨gb127, 2, none⟩ = some (.int .i64 (rd_T30 l0 x7_1).f2) ∧ w'.cell? ⟨gb127, 3, none⟩ = some (.string (rd_T30 l0 x7_1).f3)) ⟨by repeat (first | (with_reducible first | exact HB.out | apply below_alloc | apply pw_below_drewN | apply below_drew1 | refine below_set ?_ GE127.out) | exact HB.out), by first | (go_simp; done) | exact World.cell?_setCell_same' _ _ _ (by go_simp), by first | (go_simp; done) | exact World.cell?_setCell_same' _ _ _ (by go_simp), by first | (go_simp; done) | exact World.cell?_setCell_same' _ _ _ (by go_simp), by first | (go_simp; done) | exact World.cell?_setCell_same' _ _ _ (by go_simp)⟩ ?_
                clear hcz10_0 hfz10_0
                clear hcz10_1 hfz10_1
                clear hcz10_2 hfz10_2
                clear hcz10_3 hfz10_3
                clear HB BK127
                rintro w12 ⟨hb12, h12_0, h12_1, h12_2, h12_3⟩
                have p12 := eq_true (of_decide_eq_true c6b0)
                have q12 := eq_true (of_decide_eq_true c7b0)
                have hq := at_T30 HR2.out x7_1 (of_decide_eq_true c6b0) (of_decide_eq_true c7b0)
                obtain ⟨ad12, e12, hx12_0, hx12_1, hx12_2, hx12_3⟩ := hq
                cases e12
                replace hx12_0 := (hb12.cell (World.block_lt_of_cell? w _ hx12_0)).trans hx12_0
                replace hx12_1 := (hb12.cell (World.block_lt_of_cell? w _ hx12_1)).trans hx12_1
                replace hx12_2 := (hb12.cell (World.block_lt_of_cell? w _ hx12_2)).trans hx12_2
                replace hx12_3 := (hb12.cell (World.block_lt_of_cell? w _ hx12_3)).trans hx12_3
                have HB := Aside0.mk hb12
                clear hb12
                go_quiet (fail)
                try go_wp2
                go_ret
                exact ⟨by first | rfl | (simp [errW_none, errW_some] <;> rfl) | (simp [*, errW_none, errW_some] <;> rfl), by repeat (first | (with_reducible first | exact HB.out | apply below_alloc | apply pw_below_drewN | apply below_drew1 | refine below_set ?_ GE127.out) | exact HB.out)⟩
              · rw [if_neg c8] at H
                have c8b0 : (!(((rd_T30 l0 x7_1).f0) == ((rd_T30 l2 x7_1).f0)) || (!((wrap64 (((rd_T30 l0 x7_1).f1) + a1)) == ((rd_T30 l2 x7_1).f1)) || (!(((rd_T30 l0 x7_1).f2) == ((rd_T30 l2 x7_1).f2)) || (!((((rd_T30 l0 x7_1).f3).toList) == (((rd_T30 l2 x7_1).f3).toList)))))) = false := by simpa using c8
                clear c8
                have H' := Aside0.mk H
                clear H
                have p126 : 0 ≤ (x7_1 : Int) := of_decide_eq_true (by first | (with_reducible assumption) | assumption)
                have q126 : x7_1 < (l0.length : Int) := of_decide_eq_true (by first | (with_reducible assumption) | assumption)
                obtain ⟨ad126, e126, hx126_0, hx126_1, hx126_2, hx126_3⟩ := at_T30 HR0.out x7_1 p126 q126
                cases e126
                replace hx126_0 := (HB.out.cell (World.block_lt_of_cell? w _ hx126_0)).trans hx126_0
                replace hx126_1 := (HB.out.cell (World.block_lt_of_cell? w _ hx126_1)).trans hx126_1
                replace hx126_2 := (HB.out.cell (World.block_lt_of_cell? w _ hx126_2)).trans hx126_2
                replace hx126_3 := (HB.out.cell (World.block_lt_of_cell? w _ hx126_3)).trans hx126_3
                replace p126 := eq_true p126
                replace q126 := eq_true q126
                go_upto_region 8 with (first | ((with_reducible refine gate_dst (N := 8) rfl ?_); refine box_event ?hg (N := 8) ?hd (cs := #[.int .i64 0, .int .i64 0, .int .i64 0, .string (⟨#[]⟩ : ByteArray)]) (t := 30) ?hr ?_; (case hd => rfl); (case hg => rfl); (case hr => first | (go_simp; done) | (go_simp; rfl)); intro gb127 hg w11 hbox hb; have n0_ := Aside0.mk (below_step (by repeat (first | (with_reducible first | exact HB.out | apply below_alloc | apply pw_below_drewN | apply below_drew1) | exact HB.out)) hb); have n1_ := Aside0.mk (hbox); have n2_ := Aside0.mk ((by rw [hg]; exact (below_size (by repeat (first | (with_reducible first | exact HB.out | apply below_alloc | apply pw_below_drewN | apply below_drew1) | exact HB.out))) : w.heap.size ≤ gb127)); have n3_ := Aside0.mk ((by rw [hg]; exact (below_size (by repeat (first | (with_reducible first | exact HB.out | apply below_alloc | apply pw_below_drewN | apply below_drew1) | exact HB.out))) : w.heap.size ≤ gb127)); clear HB; have HB := n0_; have BK127 := n1_; have GW127 := n2_; have GE127 := n3_; clear n0_ n1_ n2_ n3_; clear hb hbox hg; have hcz12_0 : w11.cell? ⟨gb127, 0, none⟩ = some (.int .i64 0) := (blk_cell BK127.out 0).trans rfl; have hcz12_1 : w11.cell? ⟨gb127, 1, none⟩ = some (.int .i64 0) := (blk_cell BK127.out 1).trans rfl; have hcz12_2 : w11.cell? ⟨gb127, 2, none⟩ = some (.int .i64 0) := (blk_cell BK127.out 2).trans rfl; have hcz12_3 : w11.cell? ⟨gb127, 3, none⟩ = some (.string (⟨#[]⟩ : ByteArray)) := (blk_cell BK127.out 3).trans rfl; have hfz12_0 := blk_frozen BK127.out 0; have hfz12_1 := blk_frozen BK127.out 1; have hfz12_2 := blk_frozen BK127.out 2; have hfz12_3 := blk_frozen BK127.out 3))
                refine at_world (F := fun w' => Below w.heap.size w w' ∧ w'.cell? ⟨gb127, 0, none⟩ = some (.int .i64 (rd_T30 l0 x7_1).f0) ∧ w'.cell? ⟨gb127, 1, none⟩ = some (.int .i64 (wrap64 ((rd_T30 l0 x7_1).f1 + a1))) ∧ w'.cell? ⟨gb127, 2, none⟩ = some (.int .i64 (rd_T30 l0 x7_1).f2) ∧ w'.cell? ⟨gb127, 3, none⟩ = some (.string (rd_T30 l0 x7_1).f3)) ⟨by repeat (first | (with_reducible first | exact HB.out | apply below_alloc | apply pw_below_drewN | apply below_drew1 | refine below_set ?_ GE127.out) | exact HB.out), by first | (go_simp; done) | exact World.cell?_setCell_same' _ _ _ (by go_simp), by first | (go_simp; done) | exact World.cell?_setCell_same' _ _ _ (by go_simp), by first | (go_simp; done) | exact World.cell?_setCell_same' _ _ _ (by go_simp), by first | (go_simp; done) | exact World.cell?_setCell_same' _ _ _ (by go_simp)⟩ ?_
                clear hcz12_0 hfz12_0
                clear hcz12_1 hfz12_1
                clear hcz12_2 hfz12_2
                clear hcz12_3 hfz12_3
                clear HB BK127
                rintro w12 ⟨hb12, h12_0, h12_1, h12_2, h12_3⟩
                have p12 := eq_true (of_decide_eq_true c6b0)
                have q12 := eq_true (of_decide_eq_true c7b0)
                have hq := at_T30 HR2.out x7_1 (of_decide_eq_true c6b0) (of_decide_eq_true c7b0)
                obtain ⟨ad12, e12, hx12_0, hx12_1, hx12_2, hx12_3⟩ := hq
                cases e12
                replace hx12_0 := (hb12.cell (World.block_lt_of_cell? w _ hx12_0)).trans hx12_0
                replace hx12_1 := (hb12.cell (World.block_lt_of_cell? w _ hx12_1)).trans hx12_1
                replace hx12_2 := (hb12.cell (World.block_lt_of_cell? w _ hx12_2)).trans hx12_2
                replace hx12_3 := (hb12.cell (World.block_lt_of_cell? w _ hx12_3)).trans hx12_3
                have HB := Aside0.mk hb12
                clear hb12
                go_quiet (fail)
                try go_wp2
                go_roundg k1
                case measure => have := HK1.out; omega
                case rel => exact ⟨(wrap64 (x7_1 + 1)), (by first | rfl | (simp; done) | (simp [*]; done)), H', ⟨by have := HK1.out; omega⟩, ⟨by repeat (first | (with_reducible first | exact HB.out | apply below_alloc | apply pw_below_drewN | apply below_drew1 | refine below_set ?_ GE127.out) | exact HB.out)⟩⟩
            · rw [if_neg c7] at H
              exact absurd H (by simp)
          · rw [if_neg c6] at H
            exact absurd H (by simp)
        · rw [if_neg c5] at H
          have c5b0 : decide (x7_1 < (l0.length : Int)) = false := decide_eq_false c5
          clear c5
          obtain rfl := Option.some.inj H
          go_wp2
          repeat (go_quiet (fail); try go_wp2)
          go_ret
          exact ⟨by first | rfl | (simp [errW_none, errW_some] <;> rfl) | (simp [*, errW_none, errW_some] <;> rfl), by repeat (first | (with_reducible first | exact HB.out | apply below_alloc | apply pw_below_drewN | apply below_drew1) | exact HB.out)⟩
  · rw [if_neg c4] at H
    have c4b0 : ((l0.length : Int) == (l2.length : Int)) = false := beq_eq_false_iff_ne.mpr c4
    have c4b1 : ((l0.length : Int) != (l2.length : Int)) = true := bne_iff_ne.mpr c4
    have c4b2 : (l0.length == l2.length) = false := by first | simpa using c4 | (simp at c4 ⊢; omega)
    obtain rfl := Option.some.inj H
    go_enter Tryd.func14, Tryd.ntmps14
    go_wp2
    repeat (go_quiet (fail); try go_wp2)
    go_ret
    exact ⟨by first | rfl | (simp [errW_none, errW_some] <;> rfl) | (simp [*, errW_none, errW_some] <;> rfl), by repeat (first | (with_reducible first | exact HB.out | apply below_alloc | apply pw_below_drewN | apply below_drew1) | exact HB.out)⟩


end Go.Proofs.YtalgccjkfanaoaaDoor.PL
