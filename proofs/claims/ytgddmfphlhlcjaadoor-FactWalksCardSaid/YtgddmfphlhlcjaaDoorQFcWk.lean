/- The law FactWalks answers true. -/
import Derived.Test.YtgddmfphlhlcjaaDoorMg20
namespace Go.Proofs.YtgddmfphlhlcjaaDoor.FcW
open Go.RowKit Go.Proofs.YtgddmfphlhlcjaaDoorW.PrintWords Go.Proofs.YtgddmfphlhlcjaaDoorW.PrintLast Go.Proofs.YtgddmfphlhlcjaaDoorW.PrintMore
open Go.Proofs.YtgddmfphlhlcjaaDoor Go.Proofs.YtgddmfphlhlcjaaDoor.PF Go.Proofs.YtgddmfphlhlcjaaDoor.LxP Go.Proofs.YtgddmfphlhlcjaaDoor.LxW Go.Proofs.YtgddmfphlhlcjaaDoor.FcP
set_option linter.unusedVariables false
set_option linter.unusedSimpArgs false

theorem last_step {a his : List Int} (hl : a.length = his.length) {j : Nat} (hj : j < a.length) : (a.take (j + 1) = his.take (j + 1)) ↔ (a.take j = his.take j ∧ a[j] = his[j]'(by omega)) := by
  rw [List.take_add_one, List.take_add_one, List.getElem?_eq_getElem hj, List.getElem?_eq_getElem (by omega : j < his.length)]
  constructor
  · intro h
    have h1 := List.append_inj h (by rw [List.length_take, List.length_take]; omega)
    exact ⟨h1.1, by simpa using h1.2⟩
  · rintro ⟨h1, h2⟩
    rw [h1, h2]

set_option maxHeartbeats 64000000 in
set_option maxRecDepth 100000 in
theorem walks_any (A : Option Addr) (c : Nat) (l0 : List S42) (A1 : Option Addr) (c1 : Nat) (l1 : List Int) (A2 : Option Addr) (c2 : Nat) (l2 : List Int) (W : World) (hd : DomIn W A c l0) (h1 : CaseIn W A1 c1 l1) (h2 : CaseIn W A2 c2 l2) (ht : Tab W) :
    Calls Tryd.prog 6 #[.agg #[.slice A l0.length c], .slice A1 l1.length c1, .slice A2 l2.length c2] W fun e w' => e = .returned (.bool true) ∧ Below W.heap.size W w' := by
  have HD := Aside0.mk hd
  have H1 := Aside0.mk h1
  have H2 := Aside0.mk h2
  have HT := Aside0.mk ht
  have hm2 := Kd.C_max h2.1
  clear hd h1 h2 ht
  obtain ⟨bf, hbf⟩ : ∃ bf, (fewB l0 && decide (l1.length ≤ 70)) = bf := ⟨_, rfl⟩
  obtain ⟨bl, hbl⟩ : ∃ bl, decide ((70 : Int) < (l2.length : Int)) = bl := ⟨_, rfl⟩
  have hbl2 : decide (70 < l2.length) = bl := by rw [← hbl]; exact decide_eq_decide.2 (by omega)
  obtain ⟨b1, hb1⟩ : ∃ b1, decide (Fits (l0.map toF) l1) = b1 := ⟨_, rfl⟩
  obtain ⟨b2, hb2⟩ : ∃ b2, decide (Fits (l0.map toF) l2) = b2 := ⟨_, rfl⟩
  have HBF := Aside0.mk hbf
  have HQ1 := Aside0.mk hb1
  have HQ2 := Aside0.mk hb2
  clear hbf hb1 hb2
  go_enter Tryd.func6, Tryd.ntmps6
  go_upto_region 1 with (first | ((with_reducible refine gate_dst (N := 3) rfl ?_); (try (refine gate_guard (by rfl) ?_; dsimp only)); refine box_event ?hg (N := 3) ?hd (cs := #[.slice A l0.length c]) (t := 24) ?hr ?_; (case hd => rfl); (case hg => rfl); (case hr => first | (go_simp; done) | (go_simp; rfl)); intro bx hg_bx wbx hbox hb; have BK_bx := Aside0.mk hbox; have HB_bx := Aside0.mk hb; have GE_bx := Aside0.mk (Nat.le_of_eq hg_bx.symm); clear hbox hb hg_bx))
  refine at_world (F := fun w' => Bx W bx A l0.length c w') ⟨BK_bx.out, HB_bx.out⟩ ?_
  clear BK_bx HB_bx GE_bx
  intro w0 p_
  have X0 := Aside0.mk p_
  clear p_
  have xc0 := X0.out.cell
  go_upto_region 2 with (first | (go_at_call 8; ((with_reducible refine (head_in HT.out X0.out.wb).mono ?_)); rintro e_ wz1 ⟨rfl, hb_⟩; have X1 := Aside0.mk (X0.out.below hb_); have HB1 := Aside0.mk hb_; have xc1 := X1.out.cell; clear hb_))
  cases bf with
  | false =>
    go_wp2_with (first | (go_at_call 9; ((with_reducible refine (few_in HD.out H1.out X1.out false HBF.out).mono ?_)); rintro e_ wz2 ⟨rfl, hb_⟩; have X2 := Aside0.mk (X1.out.below hb_); have HB2 := Aside0.mk hb_; have xc2 := X2.out.cell; clear hb_))
    go_ret
    exact ⟨rfl, X2.out.wb⟩
  | true =>
    have HSM := Aside0.mk (few_small (by have := HBF.out; simp only [Bool.and_eq_true] at this; exact this.1)).1
    have H70 := Aside0.mk (show l1.length ≤ 70 by have := HBF.out; simp only [Bool.and_eq_true, decide_eq_true_eq] at this; exact this.2)
    cases bl with
    | true =>
      go_wp2_with (first | (go_at_call 9; ((with_reducible refine (few_in HD.out H1.out X1.out true HBF.out).mono ?_)); rintro e_ wz2 ⟨rfl, hb_⟩; have X2 := Aside0.mk (X1.out.below hb_); have HB2 := Aside0.mk hb_; have xc2 := X2.out.cell; clear hb_))
      go_ret
      exact ⟨rfl, X2.out.wb⟩
    | false =>
      have H72 := Aside0.mk (show l2.length ≤ 70 by have := of_decide_eq_false hbl2; omega)
      cases b1 with
      | false =>
        go_wp2_with (first | (go_at_call 9; ((with_reducible refine (few_in HD.out H1.out X1.out true HBF.out).mono ?_)); rintro e_ wz2 ⟨rfl, hb_⟩; have X2 := Aside0.mk (X1.out.below hb_); have HB2 := Aside0.mk hb_; have xc2 := X2.out.cell; clear hb_) | (go_at_call 16; ((with_reducible refine (fits_in HD.out H1.out HSM.out X2.out false HQ1.out).mono ?_)); rintro e_ wz3 ⟨rfl, hb_⟩; have X3 := Aside0.mk (X2.out.below hb_); have HB3 := Aside0.mk hb_; have xc3 := X3.out.cell; clear hb_))
        go_ret
        exact ⟨rfl, X3.out.wb⟩
      | true =>
        cases b2 with
        | false =>
          go_wp2_with (first | (go_at_call 9; ((with_reducible refine (few_in HD.out H1.out X1.out true HBF.out).mono ?_)); rintro e_ wz2 ⟨rfl, hb_⟩; have X2 := Aside0.mk (X1.out.below hb_); have HB2 := Aside0.mk hb_; have xc2 := X2.out.cell; clear hb_) | (go_at_call 16; ((with_reducible refine (fits_in HD.out H1.out HSM.out X2.out true HQ1.out).mono ?_)); rintro e_ wz3 ⟨rfl, hb_⟩; have X3 := Aside0.mk (X2.out.below hb_); have HB3 := Aside0.mk hb_; have xc3 := X3.out.cell; clear hb_) | (go_at_call 16; ((with_reducible refine (fits_in HD.out H2.out HSM.out X3.out false HQ2.out).mono ?_)); rintro e_ wz4 ⟨rfl, hb_⟩; have X4 := Aside0.mk (X3.out.below hb_); have HB4 := Aside0.mk hb_; have xc4 := X4.out.cell; clear hb_))
          go_ret
          exact ⟨rfl, X4.out.wb⟩
        | true =>
          have HF1 := Aside0.mk (of_decide_eq_true HQ1.out)
          have HF2 := Aside0.mk (of_decide_eq_true HQ2.out)
          have HLE := Aside0.mk (show ∀ f ∈ l0.map toF, f.lo ≤ f.hi from fun f hf => by have := (fact_cases (HF1.out.1.1 f hf)).2; omega)
          have HVD := Aside0.mk HF1.out.1
          have HFL := Aside0.mk (show decide (Fits (l0.map toF) ((l0.map toF).map (·.lo))) = true from decide_eq_true ⟨HF1.out.1, least_within (l0.map toF) HLE.out⟩)
          have HLL := Aside0.mk (least_least (l0.map toF) l1 HF1.out.2)
          have HLM := Aside0.mk (show l1.length ≤ 1000000000000000000 by have := H70.out; omega)
          have HLM2 := Aside0.mk (show l2.length ≤ 1000000000000000000 by have := H72.out; omega)
          go_upto_region 4 with (first | (go_at_call 9; ((with_reducible refine (few_in HD.out H1.out X1.out true HBF.out).mono ?_)); rintro e_ wz2 ⟨rfl, hb_⟩; have X2 := Aside0.mk (X1.out.below hb_); have HB2 := Aside0.mk hb_; have xc2 := X2.out.cell; clear hb_) | (go_at_call 16; ((with_reducible refine (fits_in HD.out H1.out HSM.out X2.out true HQ1.out).mono ?_)); rintro e_ wz3 ⟨rfl, hb_⟩; have X3 := Aside0.mk (X2.out.below hb_); have HB3 := Aside0.mk hb_; have xc3 := X3.out.cell; clear hb_) | (go_at_call 16; ((with_reducible refine (fits_in HD.out H2.out HSM.out X3.out true HQ2.out).mono ?_)); rintro e_ wz4 ⟨rfl, hb_⟩; have X4 := Aside0.mk (X3.out.below hb_); have HB4 := Aside0.mk hb_; have xc4 := X4.out.cell; clear hb_))
          refine at_world (F := fun w' => Bx W bx A l0.length c w') X4.out ?_
          clear X0 xc0 X1 xc1 X2 xc2 X3 xc3 X4 xc4 HB2 HB3 HB4
          intro w4 p_
          have X4 := Aside0.mk p_
          clear p_
          have xc4 := X4.out.cell
          go_upto_region 5 with (first | (go_at_call 18; ((with_reducible refine (least_in HD.out HSM.out HVD.out X4.out).mono ?_)); rintro e_ wz5 ⟨v8, rfl, hv_, hb_⟩; have X5 := Aside0.mk (X4.out.below hb_); have HB5 := Aside0.mk hb_; have xc5 := X5.out.cell; have V8_ := Aside0.mk hv_; clear hv_; clear hb_))
          obtain ⟨g8, V8⟩ : ∃ g, Aside0 (Kd.R (Kd.int .i64) 3 wz5 g (fun _ => True) v8 ((l0.map toF).map (·.lo))) := ⟨_, V8_⟩
          clear V8_
          refine at_world (F := fun w' => Bx W bx A l0.length c w' ∧ Kd.R (Kd.int .i64) 3 w' g8 (fun _ => True) v8 ((l0.map toF).map (·.lo))) ⟨X5.out, V8.out⟩ ?_
          clear X4 xc4 X5 xc5 HB5 V8
          rintro w5 ⟨p_, q_⟩
          have X5 := Aside0.mk p_
          have V8 := Aside0.mk q_
          clear p_ q_
          have xc5 := X5.out.cell
          go_upto_region 7 with (first | (go_at_call 16; ((with_reducible refine (fits_R HD.out HSM.out X5.out V8.out true HFL.out).mono ?_)); rintro e_ wz6 ⟨rfl, hb_⟩; have X6 := Aside0.mk (X5.out.below hb_); have HB6 := Aside0.mk hb_; have xc6 := X6.out.cell; clear hb_) | (go_at_call 19; ((with_reducible refine (less_R H1.out X6.out.wb (Kd.R_below V8.out HB6.out) HLM.out false HLL.out).mono ?_)); rintro e_ wz7 ⟨rfl, hb_⟩; have X7 := Aside0.mk (X6.out.below hb_); have HB7 := Aside0.mk hb_; have xc7 := X7.out.cell; clear hb_))
          refine at_world (F := fun w' => Bx W bx A l0.length c w') X7.out ?_
          clear X5 xc5 X6 xc6 X7 xc7 HB6 HB7 V8
          intro w7 p_
          have X7 := Aside0.mk p_
          clear p_
          have hl01 := Aside0.mk (show l1.length = (l0.map toF).length from within_length HF1.out.2)
          go_wp2
          go_loopg [9, 10] l1.length (fun gk v9 v10 wr => ∃ (j : Nat) (bl : Bool), l1.length - j ≤ gk ∧ j ≤ l1.length ∧ v9 = .bool bl ∧ v10 = .int .i64 j ∧ Aside0 (decide (l1.take j = ((l0.map toF).map (·.hi)).take j) = bl) ∧ Aside0 (Bx W bx A l0.length c wr))
          case atStart => exact ⟨0, true, by omega, Nat.zero_le _, rfl, rfl, ⟨by simp⟩, X7⟩
          case round =>
            clear X7
            obtain ⟨j, bl, hgk, hj, rfl, rfl, HLS, X⟩ := hrel
            have h70 := H70.out
            have xc := X.out.cell
            by_cases hjl : j < l1.length
            · cases gk with
              | zero => omega
              | succ k1 =>
                have hd1 : decide ((j : Int) < (l1.length : Int)) = true := decide_eq_true (by omega)
                have hd2 : decide (j < l1.length) = true := decide_eq_true hjl
                have hj0 : j < l0.length := by have := hl01.out; rw [List.length_map] at this; omega
                cases bl with
                | false =>
                  have HN := Aside0.mk (show decide (l1.take (j + 1) = ((l0.map toF).map (·.hi)).take (j + 1)) = false from decide_eq_false fun h => of_decide_eq_false HLS.out ((last_step (by rw [List.length_map]; exact hl01.out) hjl).1 h).1)
                  go_upto_region 11 with (fail)
                  go_quiet (fail)
                  go_wp2
                  go_roundg k1
                  case measure => omega
                  case rel => exact ⟨j + 1, false, by omega, by omega, rfl, by go_num, HN, ⟨X.out.drewN _⟩⟩
                | true =>
                  obtain ⟨ad, e0_, hx0, hx1, hx2, hx3⟩ := at_T42 HD.out.1 (j : Int) (by omega) (by omega)
                  simp only [Int.toNat_natCast] at hx0 hx1 hx2 hx3
                  subst e0_
                  obtain ⟨a1, e1_, hy⟩ := at_I H1.out.1 j hjl
                  subst e1_
                  clear hx0 hx1 hx2
                  replace hx3 := (X.out.wb.cell (World.block_lt_of_cell? W _ hx3)).trans hx3
                  replace hy := (X.out.wb.cell (World.block_lt_of_cell? W _ hy)).trans hy
                  have p1 := eq_true (show (0 : Int) ≤ (j : Int) by omega)
                  have q1 := eq_true (show (j : Int) < (l0.length : Int) by omega)
                  have q2 := eq_true hj0
                  have q3 := eq_true (show (j : Int) < (l1.length : Int) by omega)
                  have q4 := eq_true hjl
                  have hst := last_step (a := l1) (his := (l0.map toF).map (·.hi)) (by rw [List.length_map]; exact hl01.out) hjl
                  have hhi : ((l0.map toF).map (·.hi))[j]'(by rw [List.length_map, List.length_map]; exact hj0) = (rd_T42 l0 (j : Int)).f3 := by
                    rw [List.getElem_map, List.getElem_map, rdT_get hj0]
                    rfl
                  rw [hhi] at hst
                  generalize (rd_T42 l0 (j : Int)).f3 = hi at hx3 hst
                  generalize l1[j] = x at hy hst
                  have HST := Aside0.mk hst
                  clear hst hhi
                  by_cases e : x = hi
                  · have he : (x == hi) = true := by rw [beq_iff_eq]; exact e
                    have HN := Aside0.mk (show decide (l1.take (j + 1) = ((l0.map toF).map (·.hi)).take (j + 1)) = true from decide_eq_true (HST.out.2 ⟨of_decide_eq_true HLS.out, e⟩))
                    clear e
                    go_upto_region 11 with (fail)
                    go_quiet (fail)
                    go_wp2
                    go_roundg k1
                    case measure => omega
                    case rel => exact ⟨j + 1, true, by omega, by omega, rfl, by go_num, HN, ⟨X.out.drewN _⟩⟩
                  · have he : (x == hi) = false := by rw [beq_eq_false_iff_ne]; exact e
                    have HN := Aside0.mk (show decide (l1.take (j + 1) = ((l0.map toF).map (·.hi)).take (j + 1)) = false from decide_eq_false fun h => e (HST.out.1 h).2)
                    clear e
                    go_upto_region 11 with (fail)
                    go_quiet (fail)
                    go_wp2
                    go_roundg k1
                    case measure => omega
                    case rel => exact ⟨j + 1, false, by omega, by omega, rfl, by go_num, HN, ⟨X.out.drewN _⟩⟩
            · have hjn : j = l1.length := by omega
              subst hjn
              have hd1 : decide ((l1.length : Int) < (l1.length : Int)) = false := decide_eq_false (by omega)
              have hd2 : decide (l1.length < l1.length) = false := decide_eq_false (by omega)
              have HLA := Aside0.mk (show decide (l1 = (l0.map toF).map (·.hi)) = bl by
                have h := HLS.out
                rw [List.take_of_length_le (Nat.le_refl _), List.take_of_length_le (by rw [List.length_map, hl01.out]; exact Nat.le_refl _)] at h
                exact h)
              have hnn := next_none (l0.map toF) l1 HF1.out.2
              obtain ⟨bb, hbb⟩ : ∃ bb, less l1 l2 = bb := ⟨_, rfl⟩
              have HBB := Aside0.mk hbb
              have HNL := Aside0.mk (next_least (l0.map toF) l1 l2 HF1.out.2 HF2.out.2)
              clear hbb HLS hj hjl hgk
              cases hn : nextL (l0.map toF) l1 with
              | none =>
                obtain rfl : bl = true := by rw [← HLA.out]; exact decide_eq_true (hnn.1 hn)
                obtain rfl : bb = false := by
                  cases bb with
                  | false => rfl
                  | true =>
                    obtain ⟨n, h1, _⟩ := HNL.out HBB.out
                    rw [hn] at h1
                    cases h1
                have HNX := Aside0.mk (show nextO (l0.map toF) l1 = ([], false) by unfold nextO; rw [hn])
                clear hnn hn
                go_wp2_with (first | (go_at_call 20; ((with_reducible refine (next_in HD.out H1.out HSM.out HF1.out X.out [] false HNX.out).mono ?_)); rintro e_ wz8 ⟨v11, rfl, hv_, hb_⟩; have X8 := Aside0.mk (X.out.below hb_); have HB8 := Aside0.mk hb_; have xc8 := X8.out.cell; obtain ⟨A11, c11, rfl⟩ := Kd.R_slice hv_; clear hv_; clear hb_) | (go_at_call 19; ((with_reducible refine (less_in H1.out H2.out X8.out.wb HLM.out false HBB.out).mono ?_)); rintro e_ wz9 ⟨rfl, hb_⟩; have X9 := Aside0.mk (X8.out.below hb_); have HB9 := Aside0.mk hb_; have xc9 := X9.out.cell; clear hb_))
                go_ret
                exact ⟨rfl, X9.out.wb⟩
              | some n =>
                obtain rfl : bl = false := by rw [← HLA.out]; exact decide_eq_false fun h => by have := hnn.2 h; rw [hn] at this; cases this
                have HNX := Aside0.mk (show nextO (l0.map toF) l1 = (n, true) by unfold nextO; rw [hn])
                have hns := next_some (l0.map toF) l1 n HLE.out HF1.out.2 hn
                have HFN := Aside0.mk (show decide (Fits (l0.map toF) n) = true from decide_eq_true ⟨HF1.out.1, hns.1⟩)
                have HLN := Aside0.mk hns.2
                have HNE := Aside0.mk hn
                clear hnn hn hns
                go_upto_region 13 with (first | (go_at_call 20; ((with_reducible refine (next_in HD.out H1.out HSM.out HF1.out X.out n true HNX.out).mono ?_)); rintro e_ wz8 ⟨v11, rfl, hv_, hb_⟩; have X8 := Aside0.mk (X.out.below hb_); have HB8 := Aside0.mk hb_; have xc8 := X8.out.cell; have V11_ := Aside0.mk hv_; clear hv_; clear hb_))
                obtain ⟨g11, V11⟩ : ∃ g, Aside0 (Kd.R (Kd.int .i64) 3 wz8 g (fun _ => True) v11 n) := ⟨_, V11_⟩
                clear V11_
                refine at_world (F := fun w' => Bx W bx A l0.length c w' ∧ Kd.R (Kd.int .i64) 3 w' g11 (fun _ => True) v11 n) ⟨X8.out, V11.out⟩ ?_
                clear X8 xc8 HB8 X xc V11
                rintro w8 ⟨p_, q_⟩
                have X8 := Aside0.mk p_
                have V11 := Aside0.mk q_
                clear p_ q_
                have xc8 := X8.out.cell
                go_upto_region 15 with (first | (go_at_call 16; ((with_reducible refine (fits_R HD.out HSM.out X8.out V11.out true HFN.out).mono ?_)); rintro e_ wz9 ⟨rfl, hb_⟩; have X9 := Aside0.mk (X8.out.below hb_); have HB9 := Aside0.mk hb_; have xc9 := X9.out.cell; clear hb_) | (go_at_call 19; ((with_reducible refine (less_R H1.out X9.out.wb (Kd.R_below V11.out HB9.out) HLM.out true HLN.out).mono ?_)); rintro e_ wz10 ⟨rfl, hb_⟩; have X10 := Aside0.mk (X9.out.below hb_); have HB10 := Aside0.mk hb_; have xc10 := X10.out.cell; clear hb_))
                cases bb with
                | false =>
                  go_wp2_with (first | (go_at_call 19; ((with_reducible refine (less_in H1.out H2.out X10.out.wb HLM.out false HBB.out).mono ?_)); rintro e_ wz11 ⟨rfl, hb_⟩; have X11 := Aside0.mk (X10.out.below hb_); have HB11 := Aside0.mk hb_; have xc11 := X11.out.cell; clear hb_))
                  go_ret
                  exact ⟨rfl, X11.out.wb⟩
                | true =>
                  have HLB := Aside0.mk (show less l2 n = false by
                    obtain ⟨n', h1, h2⟩ := HNL.out HBB.out
                    rw [HNE.out] at h1
                    cases h1
                    exact h2)
                  go_wp2_with (first | (go_at_call 19; ((with_reducible refine (less_in H1.out H2.out X10.out.wb HLM.out true HBB.out).mono ?_)); rintro e_ wz11 ⟨rfl, hb_⟩; have X11 := Aside0.mk (X10.out.below hb_); have HB11 := Aside0.mk hb_; have xc11 := X11.out.cell; clear hb_) | (go_at_call 19; ((with_reducible refine (less_R H2.out X11.out.wb (Kd.R_below V11.out (below_step (below_step HB9.out HB10.out) HB11.out)) HLM2.out false HLB.out).mono ?_)); rintro e_ wz12 ⟨rfl, hb_⟩; have X12 := Aside0.mk (X11.out.below hb_); have HB12 := Aside0.mk hb_; have xc12 := X12.out.cell; clear hb_))
                  go_ret
                  exact ⟨rfl, X12.out.wb⟩
end Go.Proofs.YtgddmfphlhlcjaaDoor.FcW
