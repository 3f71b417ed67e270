/- The law FactCases answers true. -/
import Derived.Test.YtgddmfphlhlcjaaDoorMg20
namespace Go.Proofs.YtgddmfphlhlcjaaDoor.FcW
open Go.RowKit Go.Proofs.YtgddmfphlhlcjaaDoorW.PrintWords Go.Proofs.YtgddmfphlhlcjaaDoorW.PrintLast Go.Proofs.YtgddmfphlhlcjaaDoorW.PrintMore
open Go.Proofs.YtgddmfphlhlcjaaDoor Go.Proofs.YtgddmfphlhlcjaaDoor.PF Go.Proofs.YtgddmfphlhlcjaaDoor.LxP Go.Proofs.YtgddmfphlhlcjaaDoor.LxW Go.Proofs.YtgddmfphlhlcjaaDoor.FcP
set_option linter.unusedVariables false
set_option linter.unusedSimpArgs false

section
variable {W w : World} {b : Nat} {A A1 A2 : Option Addr} {c c1 c2 : Nat} {l0 : List S42} {l1 l2 : List Int}
theorem ctext_in (hd : DomIn W A c l0) (h1 : CaseIn W A1 c1 l1) (hs : Small l0) (ht : Tab W) (X : Bx W b A l0.length c w) (s : ByteArray) (h : bs (caseText (l0.map toF) l1) = s) : Calls Tryd.prog 14 #[.agg #[.slice A l0.length c], .slice A1 l1.length c1] w fun e w' => e = .returned (.string s) ∧ Below w.heap.size w w' := by
  subst h
  exact ctext_any A c l0 A1 c1 l1 w (Kd.C_below hd.1 X.2) hd.2 (Kd.C_below h1.1 X.2) hs (ht.below X.2)
theorem case_in (hd : DomIn W A c l0) (hs : Small l0) (X : Bx W b A l0.length c w) (s : ByteArray) (r : List Int) (x y : Int) (hr : caseO (l0.map toF) s = (r, x, y)) : Calls Tryd.prog 15 #[.agg #[.slice A l0.length c], .string s] w fun e w' => ∃ v : Value, e = .returned (.tuple #[v, .int .i64 x, .int .i64 y]) ∧ Kd.R (Kd.int .i64) 3 w' w.heap.size (fun _ => True) v r ∧ Below w.heap.size w w' := by
  have h1 := case_any A c l0 s w (Kd.C_below hd.1 X.2) hd.2 hs
  rw [hr] at h1
  exact h1
theorem equal_RI (h1 : CaseIn W A1 c1 l1) (hb : Below W.heap.size W w) {g : Nat} {v : Value} {a : List Int} (hv : Kd.R (Kd.int .i64) 3 w g (fun _ => True) v a) (hm : a.length ≤ 1000000000000000000) (r : Bool) (h : decide (a = l1) = r) : Calls Tryd.prog 17 #[v, .slice A1 l1.length c1] w fun e w' => e = .returned (.bool r) ∧ Below w.heap.size w w' := by
  obtain ⟨A2, c2, rfl, g1, g2⟩ := ints_read hv
  exact equal_any A2 c2 a A1 c1 l1 w g2 g1 (Kd.C_below h1.1 hb) h1.2 hm r h
theorem equal_same (h1 : CaseIn W A1 c1 l1) (hb : Below W.heap.size W w) {g : Nat} {v : Value} (hv : Kd.R (Kd.int .i64) 3 w g (fun _ => True) v l1) (hm : l1.length ≤ 1000000000000000000) : Calls Tryd.prog 17 #[v, .slice A1 l1.length c1] w fun e w' => e = .returned (.bool true) ∧ Below w.heap.size w w' :=
  equal_RI h1 hb hv hm true (decide_eq_true rfl)
theorem equal_II (h1 : CaseIn W A1 c1 l1) (h2 : CaseIn W A2 c2 l2) (hb : Below W.heap.size W w) (hm : l1.length ≤ 1000000000000000000) (r : Bool) (h : decide (l1 = l2) = r) : Calls Tryd.prog 17 #[.slice A1 l1.length c1, .slice A2 l2.length c2] w fun e w' => e = .returned (.bool r) ∧ Below w.heap.size w w' :=
  equal_any A1 c1 l1 A2 c2 l2 w (Kd.C_below h1.1 hb) h1.2 (Kd.C_below h2.1 hb) h2.2 hm r h
end

set_option maxHeartbeats 64000000 in
set_option maxRecDepth 100000 in
theorem cases_any (A : Option Addr) (c : Nat) (l0 : List S42) (A1 : Option Addr) (c1 : Nat) (l1 : List Int) (A2 : Option Addr) (c2 : Nat) (l2 : List Int) (s : ByteArray) (W : World) (hd : DomIn W A c l0) (h1 : CaseIn W A1 c1 l1) (h2 : CaseIn W A2 c2 l2) (ht : Tab W) :
    Calls Tryd.prog 4 #[.agg #[.slice A l0.length c], .slice A1 l1.length c1, .slice A2 l2.length c2, .string s] W fun e w' => e = .returned (.bool true) ∧ Below W.heap.size W w' := by
  have HD := Aside0.mk hd
  have H1 := Aside0.mk h1
  have H2 := Aside0.mk h2
  have HT := Aside0.mk ht
  have hm2 := Kd.C_max h2.1
  clear hd h1 h2 ht
  obtain ⟨bf, hbf⟩ : ∃ bf, (fewB l0 && decide (l1.length ≤ 70)) = bf := ⟨_, rfl⟩
  obtain ⟨bl, hbl⟩ : ∃ bl, decide ((70 : Int) < (l2.length : Int)) = bl := ⟨_, rfl⟩
  have hbl2 : decide (70 < l2.length) = bl := by rw [← hbl]; exact decide_eq_decide.2 (by omega)
  obtain ⟨bt_, hbt⟩ : ∃ bt_, decide ((3000 : Int) < (s.size : Int)) = bt_ := ⟨_, rfl⟩
  have hbt2 : decide (3000 < s.size) = bt_ := by rw [← hbt]; exact decide_eq_decide.2 (by omega)
  obtain ⟨b1, hb1⟩ : ∃ b1, decide (Fits (l0.map toF) l1) = b1 := ⟨_, rfl⟩
  obtain ⟨b2, hb2⟩ : ∃ b2, decide (Fits (l0.map toF) l2) = b2 := ⟨_, rfl⟩
  have HBF := Aside0.mk hbf
  have HQ1 := Aside0.mk hb1
  have HQ2 := Aside0.mk hb2
  clear hbf hb1 hb2
  go_enter Tryd.func4, Tryd.ntmps4
  go_upto_region 1 with (first | ((with_reducible refine gate_dst (N := 4) rfl ?_); (try (refine gate_guard (by rfl) ?_; dsimp only)); refine box_event ?hg (N := 4) ?hd (cs := #[.slice A l0.length c]) (t := 24) ?hr ?_; (case hd => rfl); (case hg => rfl); (case hr => first | (go_simp; done) | (go_simp; rfl)); intro bx hg_bx wbx hbox hb; have BK_bx := Aside0.mk hbox; have HB_bx := Aside0.mk hb; have GE_bx := Aside0.mk (Nat.le_of_eq hg_bx.symm); clear hbox hb hg_bx))
  refine at_world (F := fun w' => Bx W bx A l0.length c w') ⟨BK_bx.out, HB_bx.out⟩ ?_
  clear BK_bx HB_bx GE_bx
  intro w0 p_
  have X0 := Aside0.mk p_
  clear p_
  have xc0 := X0.out.cell
  go_upto_region 2 with (first | (go_at_call 8; ((with_reducible refine (head_in HT.out X0.out.wb).mono ?_)); rintro e_ wz1 ⟨rfl, hb_⟩; have X1 := Aside0.mk (X0.out.below hb_); have HB1 := Aside0.mk hb_; have xc1 := X1.out.cell; clear hb_))
  cases bf with
  | false =>
    go_wp2_with (first | (go_at_call 9; ((with_reducible refine (few_in HD.out H1.out X1.out false HBF.out).mono ?_)); rintro e_ wz2 ⟨rfl, hb_⟩; have X2 := Aside0.mk (X1.out.below hb_); have HB2 := Aside0.mk hb_; have xc2 := X2.out.cell; clear hb_))
    go_ret
    exact ⟨rfl, X2.out.wb⟩
  | true =>
    have HSM := Aside0.mk (few_small (by have := HBF.out; simp only [Bool.and_eq_true] at this; exact this.1)).1
    have HLM := Aside0.mk (show l1.length ≤ 1000000000000000000 by have := HBF.out; simp only [Bool.and_eq_true, decide_eq_true_eq] at this; omega)
    cases bl with
    | true =>
      go_wp2_with (first | (go_at_call 9; ((with_reducible refine (few_in HD.out H1.out X1.out true HBF.out).mono ?_)); rintro e_ wz2 ⟨rfl, hb_⟩; have X2 := Aside0.mk (X1.out.below hb_); have HB2 := Aside0.mk hb_; have xc2 := X2.out.cell; clear hb_))
      go_ret
      exact ⟨rfl, X2.out.wb⟩
    | false =>
      cases bt_ with
      | true =>
        go_wp2_with (first | (go_at_call 9; ((with_reducible refine (few_in HD.out H1.out X1.out true HBF.out).mono ?_)); rintro e_ wz2 ⟨rfl, hb_⟩; have X2 := Aside0.mk (X1.out.below hb_); have HB2 := Aside0.mk hb_; have xc2 := X2.out.cell; clear hb_))
        go_ret
        exact ⟨rfl, X2.out.wb⟩
      | false =>
        have H3K := Aside0.mk (show s.size ≤ 3000 by have := of_decide_eq_false hbt2; omega)
        obtain ⟨sa, hsa⟩ : ∃ sa, bs (caseText (l0.map toF) l1) = sa := ⟨_, rfl⟩
        have HSA := Aside0.mk hsa
        clear hsa
        go_upto_region 4 with (first | (go_at_call 9; ((with_reducible refine (few_in HD.out H1.out X1.out true HBF.out).mono ?_)); rintro e_ wz2 ⟨rfl, hb_⟩; have X2 := Aside0.mk (X1.out.below hb_); have HB2 := Aside0.mk hb_; have xc2 := X2.out.cell; clear hb_))
        refine at_world (F := fun w' => Bx W bx A l0.length c w') X2.out ?_
        clear X0 xc0 X1 xc1 X2 xc2 HB1 HB2
        intro w2 p_
        have X2 := Aside0.mk p_
        clear p_
        have xc2 := X2.out.cell
        go_upto_region 5 with (first | (go_at_call 14; ((with_reducible refine (ctext_in HD.out H1.out HSM.out HT.out X2.out sa HSA.out).mono ?_)); rintro e_ wz3 ⟨rfl, hb_⟩; have X3 := Aside0.mk (X2.out.below hb_); have HB3 := Aside0.mk hb_; have xc3 := X3.out.cell; clear hb_))
        obtain ⟨⟨y1, y2, y3⟩, hy⟩ : ∃ r, caseO (l0.map toF) sa = r := ⟨_, rfl⟩
        have HY := Aside0.mk hy
        clear hy
        go_upto_region 6 with (first | (go_at_call 15; ((with_reducible refine (case_in HD.out HSM.out X3.out sa y1 y2 y3 HY.out).mono ?_)); rintro e_ wz4 ⟨v11, rfl, hv_, hb_⟩; have X4 := Aside0.mk (X3.out.below hb_); have HB4 := Aside0.mk hb_; have xc4 := X4.out.cell; have V11_ := Aside0.mk hv_; clear hv_; clear hb_))
        obtain ⟨g11, V11⟩ : ∃ g, Aside0 (Kd.R (Kd.int .i64) 3 wz4 g (fun _ => True) v11 y1) := ⟨_, V11_⟩
        clear V11_
        refine at_world (F := fun w' => Bx W bx A l0.length c w' ∧ Kd.R (Kd.int .i64) 3 w' g11 (fun _ => True) v11 y1) ⟨X4.out, V11.out⟩ ?_
        clear X2 xc2 X3 xc3 X4 xc4 HB3 HB4 V11
        rintro w4 ⟨p_, q_⟩
        have X4 := Aside0.mk p_
        have V11 := Aside0.mk q_
        clear p_ q_
        have xc4 := X4.out.cell
        obtain ⟨⟨z1, z2, z3⟩, hz⟩ : ∃ r, caseO (l0.map toF) s = r := ⟨_, rfl⟩
        have HZ := Aside0.mk hz
        have HZG := Aside0.mk (show CaseGood (l0.map toF) s.size (z1, z2, z3) by rw [← hz]; exact caseO_ok _ s H3K.out)
        clear hz
        cases b1 with
        | false =>
          have hse : sa.toList = [] := by
            have hnf := of_decide_eq_false HQ1.out
            rw [← HSA.out, bs_toList]
            unfold caseText
            rw [if_neg hnf]
          go_upto_region 8 with (first | (go_at_call 16; ((with_reducible refine (fits_in HD.out H1.out HSM.out X4.out false HQ1.out).mono ?_)); rintro e_ wz5 ⟨rfl, hb_⟩; have X5 := Aside0.mk (X4.out.below hb_); have HB5 := Aside0.mk hb_; have xc5 := X5.out.cell; clear hb_) | (go_at_call 16; ((with_reducible refine (fits_in HD.out H1.out HSM.out X5.out false HQ1.out).mono ?_)); rintro e_ wz6 ⟨rfl, hb_⟩; have X6 := Aside0.mk (X5.out.below hb_); have HB6 := Aside0.mk hb_; have xc6 := X6.out.cell; clear hb_) | (go_at_call 16; ((with_reducible refine (fits_in HD.out H1.out HSM.out X6.out false HQ1.out).mono ?_)); rintro e_ wz7 ⟨rfl, hb_⟩; have X7 := Aside0.mk (X6.out.below hb_); have HB7 := Aside0.mk hb_; have xc7 := X7.out.cell; clear hb_))
          clear hse
          refine at_world (F := fun w' => Bx W bx A l0.length c w') X7.out ?_
          clear X4 xc4 V11
          intro w8 p_
          have X8 := Aside0.mk p_
          clear p_
          have xc8 := X8.out.cell
          go_upto_region 9 with (first | (go_at_call 15; ((with_reducible refine (case_in HD.out HSM.out X8.out s z1 z2 z3 HZ.out).mono ?_)); rintro e_ wz9 ⟨v14, rfl, hv_, hb_⟩; have X9 := Aside0.mk (X8.out.below hb_); have HB9 := Aside0.mk hb_; have xc9 := X9.out.cell; have V14_ := Aside0.mk hv_; clear hv_; clear hb_))
          obtain ⟨g14, V14⟩ : ∃ g, Aside0 (Kd.R (Kd.int .i64) 3 wz9 g (fun _ => True) v14 z1) := ⟨_, V14_⟩
          clear V14_
          rcases HZG.out with ⟨k1, k2, k3⟩ | ⟨k1, k2, k3⟩
          · have hf1 : (z2 != 0) = true := by rw [bne_iff_ne]; exact k1
            have hle : decide (z3 ≤ (s.size : Int)) = true := decide_eq_true k3
            obtain ⟨A14, c14, e14⟩ := Kd.R_slice V14.out
            have hz0 : z1 = [] := k2
            subst hz0
            subst e14
            clear k1 k2 k3
            go_wp2
            go_ret
            exact ⟨rfl, X9.out.wb⟩
          · have hz2 : z2 = 0 := k1
            have hz3 : z3 = 0 := k3
            have HFZ := Aside0.mk (show decide (Fits (l0.map toF) z1) = true from decide_eq_true k2)
            subst hz2
            subst hz3
            clear k1 k2 k3
            go_wp2_with (first | (go_at_call 16; ((with_reducible refine (fits_R HD.out HSM.out X9.out V14.out true HFZ.out).mono ?_)); rintro e_ wz10 ⟨rfl, hb_⟩; have X10 := Aside0.mk (X9.out.below hb_); have HB10 := Aside0.mk hb_; have xc10 := X10.out.cell; clear hb_))
            go_ret
            exact ⟨rfl, X10.out.wb⟩
        | true =>
          have HF1 := Aside0.mk (of_decide_eq_true HQ1.out)
          have hyy := HY.out
          rw [← HSA.out, case_back HF1.out] at hyy
          injection hyy with e1 hyy
          injection hyy with e2 e3
          subst e1; subst e2; subst e3
          cases b2 with
          | false =>
            go_upto_region 8 with (first | (go_at_call 16; ((with_reducible refine (fits_in HD.out H1.out HSM.out X4.out true HQ1.out).mono ?_)); rintro e_ wz5 ⟨rfl, hb_⟩; have X5 := Aside0.mk (X4.out.below hb_); have HB5 := Aside0.mk hb_; have xc5 := X5.out.cell; clear hb_) | (go_at_call 17; ((with_reducible refine (equal_same H1.out X5.out.wb (Kd.R_below V11.out HB5.out) HLM.out).mono ?_)); rintro e_ wz6 ⟨rfl, hb_⟩; have X6 := Aside0.mk (X5.out.below hb_); have HB6 := Aside0.mk hb_; have xc6 := X6.out.cell; clear hb_) | (go_at_call 16; ((with_reducible refine (fits_in HD.out H1.out HSM.out X6.out true HQ1.out).mono ?_)); rintro e_ wz7 ⟨rfl, hb_⟩; have X7 := Aside0.mk (X6.out.below hb_); have HB7 := Aside0.mk hb_; have xc7 := X7.out.cell; clear hb_) | (go_at_call 16; ((with_reducible refine (fits_in HD.out H2.out HSM.out X7.out false HQ2.out).mono ?_)); rintro e_ wz75 ⟨rfl, hb_⟩; have X75 := Aside0.mk (X7.out.below hb_); have HB75 := Aside0.mk hb_; have xc75 := X75.out.cell; clear hb_) | (go_at_call 16; ((with_reducible refine (fits_in HD.out H1.out HSM.out X75.out true HQ1.out).mono ?_)); rintro e_ wz76 ⟨rfl, hb_⟩; have X76 := Aside0.mk (X75.out.below hb_); have HB76 := Aside0.mk hb_; have xc76 := X76.out.cell; clear hb_))
            refine at_world (F := fun w' => Bx W bx A l0.length c w') X76.out ?_
            clear X4 xc4 V11
            intro w8 p_
            have X8 := Aside0.mk p_
            clear p_
            have xc8 := X8.out.cell
            go_upto_region 9 with (first | (go_at_call 15; ((with_reducible refine (case_in HD.out HSM.out X8.out s z1 z2 z3 HZ.out).mono ?_)); rintro e_ wz9 ⟨v14, rfl, hv_, hb_⟩; have X9 := Aside0.mk (X8.out.below hb_); have HB9 := Aside0.mk hb_; have xc9 := X9.out.cell; have V14_ := Aside0.mk hv_; clear hv_; clear hb_))
            obtain ⟨g14, V14⟩ : ∃ g, Aside0 (Kd.R (Kd.int .i64) 3 wz9 g (fun _ => True) v14 z1) := ⟨_, V14_⟩
            clear V14_
            rcases HZG.out with ⟨k1, k2, k3⟩ | ⟨k1, k2, k3⟩
            · have hf1 : (z2 != 0) = true := by rw [bne_iff_ne]; exact k1
              have hle : decide (z3 ≤ (s.size : Int)) = true := decide_eq_true k3
              obtain ⟨A14, c14, e14⟩ := Kd.R_slice V14.out
              have hz0 : z1 = [] := k2
              subst hz0
              subst e14
              clear k1 k2 k3
              go_wp2
              go_ret
              exact ⟨rfl, X9.out.wb⟩
            · have hz2 : z2 = 0 := k1
              have hz3 : z3 = 0 := k3
              have HFZ := Aside0.mk (show decide (Fits (l0.map toF) z1) = true from decide_eq_true k2)
              subst hz2
              subst hz3
              clear k1 k2 k3
              go_wp2_with (first | (go_at_call 16; ((with_reducible refine (fits_R HD.out HSM.out X9.out V14.out true HFZ.out).mono ?_)); rintro e_ wz10 ⟨rfl, hb_⟩; have X10 := Aside0.mk (X9.out.below hb_); have HB10 := Aside0.mk hb_; have xc10 := X10.out.cell; clear hb_))
              go_ret
              exact ⟨rfl, X10.out.wb⟩
          | true =>
            have HF2 := Aside0.mk (of_decide_eq_true HQ2.out)
            obtain ⟨sb, hsb⟩ : ∃ sb, bs (caseText (l0.map toF) l2) = sb := ⟨_, rfl⟩
            have HSB := Aside0.mk hsb
            clear hsb
            obtain ⟨be, hbe⟩ : ∃ be, decide (l1 = l2) = be := ⟨_, rfl⟩
            have HBE := Aside0.mk hbe
            have hq1 : (sa.toList == sb.toList) = be := by
              rw [← HSA.out, ← HSB.out, bs_toList, bs_toList, ← hbe, Bool.eq_iff_iff, beq_iff_eq, decide_eq_true_eq]
              exact ⟨fun h => caseText_inj HF1.out HF2.out h, fun h => by rw [h]⟩
            have hq2 : decide (sa.toList = sb.toList) = be := by rw [← hq1, Bool.eq_iff_iff, beq_iff_eq, decide_eq_true_eq]
            clear hbe
            cases be
            · have hq3 := of_decide_eq_false hq2
              go_upto_region 8 with (first | (go_at_call 16; ((with_reducible refine (fits_in HD.out H1.out HSM.out X4.out true HQ1.out).mono ?_)); rintro e_ wz5 ⟨rfl, hb_⟩; have X5 := Aside0.mk (X4.out.below hb_); have HB5 := Aside0.mk hb_; have xc5 := X5.out.cell; clear hb_) | (go_at_call 17; ((with_reducible refine (equal_same H1.out X5.out.wb (Kd.R_below V11.out HB5.out) HLM.out).mono ?_)); rintro e_ wz6 ⟨rfl, hb_⟩; have X6 := Aside0.mk (X5.out.below hb_); have HB6 := Aside0.mk hb_; have xc6 := X6.out.cell; clear hb_) | (go_at_call 16; ((with_reducible refine (fits_in HD.out H1.out HSM.out X6.out true HQ1.out).mono ?_)); rintro e_ wz7 ⟨rfl, hb_⟩; have X7 := Aside0.mk (X6.out.below hb_); have HB7 := Aside0.mk hb_; have xc7 := X7.out.cell; clear hb_) | (go_at_call 16; ((with_reducible refine (fits_in HD.out H2.out HSM.out X7.out true HQ2.out).mono ?_)); rintro e_ wz75 ⟨rfl, hb_⟩; have X75 := Aside0.mk (X7.out.below hb_); have HB75 := Aside0.mk hb_; have xc75 := X75.out.cell; clear hb_) | (go_at_call 14; ((with_reducible refine (ctext_in HD.out H2.out HSM.out HT.out X75.out sb HSB.out).mono ?_)); rintro e_ wz76 ⟨rfl, hb_⟩; have X76 := Aside0.mk (X75.out.below hb_); have HB76 := Aside0.mk hb_; have xc76 := X76.out.cell; clear hb_) | (go_at_call 17; ((with_reducible refine (equal_II H1.out H2.out X76.out.wb HLM.out false HBE.out).mono ?_)); rintro e_ wz77 ⟨rfl, hb_⟩; have X77 := Aside0.mk (X76.out.below hb_); have HB77 := Aside0.mk hb_; have xc77 := X77.out.cell; clear hb_) | (go_at_call 16; ((with_reducible refine (fits_in HD.out H1.out HSM.out X77.out true HQ1.out).mono ?_)); rintro e_ wz78 ⟨rfl, hb_⟩; have X78 := Aside0.mk (X77.out.below hb_); have HB78 := Aside0.mk hb_; have xc78 := X78.out.cell; clear hb_))
              clear hq1 hq2 hq3
              refine at_world (F := fun w' => Bx W bx A l0.length c w') X78.out ?_
              clear X4 xc4 V11
              intro w8 p_
              have X8 := Aside0.mk p_
              clear p_
              have xc8 := X8.out.cell
              go_upto_region 9 with (first | (go_at_call 15; ((with_reducible refine (case_in HD.out HSM.out X8.out s z1 z2 z3 HZ.out).mono ?_)); rintro e_ wz9 ⟨v14, rfl, hv_, hb_⟩; have X9 := Aside0.mk (X8.out.below hb_); have HB9 := Aside0.mk hb_; have xc9 := X9.out.cell; have V14_ := Aside0.mk hv_; clear hv_; clear hb_))
              obtain ⟨g14, V14⟩ : ∃ g, Aside0 (Kd.R (Kd.int .i64) 3 wz9 g (fun _ => True) v14 z1) := ⟨_, V14_⟩
              clear V14_
              rcases HZG.out with ⟨k1, k2, k3⟩ | ⟨k1, k2, k3⟩
              · have hf1 : (z2 != 0) = true := by rw [bne_iff_ne]; exact k1
                have hle : decide (z3 ≤ (s.size : Int)) = true := decide_eq_true k3
                obtain ⟨A14, c14, e14⟩ := Kd.R_slice V14.out
                have hz0 : z1 = [] := k2
                subst hz0
                subst e14
                clear k1 k2 k3
                go_wp2
                go_ret
                exact ⟨rfl, X9.out.wb⟩
              · have hz2 : z2 = 0 := k1
                have hz3 : z3 = 0 := k3
                have HFZ := Aside0.mk (show decide (Fits (l0.map toF) z1) = true from decide_eq_true k2)
                subst hz2
                subst hz3
                clear k1 k2 k3
                go_wp2_with (first | (go_at_call 16; ((with_reducible refine (fits_R HD.out HSM.out X9.out V14.out true HFZ.out).mono ?_)); rintro e_ wz10 ⟨rfl, hb_⟩; have X10 := Aside0.mk (X9.out.below hb_); have HB10 := Aside0.mk hb_; have xc10 := X10.out.cell; clear hb_))
                go_ret
                exact ⟨rfl, X10.out.wb⟩
            · have hq3 := of_decide_eq_true hq2
              go_upto_region 8 with (first | (go_at_call 16; ((with_reducible refine (fits_in HD.out H1.out HSM.out X4.out true HQ1.out).mono ?_)); rintro e_ wz5 ⟨rfl, hb_⟩; have X5 := Aside0.mk (X4.out.below hb_); have HB5 := Aside0.mk hb_; have xc5 := X5.out.cell; clear hb_) | (go_at_call 17; ((with_reducible refine (equal_same H1.out X5.out.wb (Kd.R_below V11.out HB5.out) HLM.out).mono ?_)); rintro e_ wz6 ⟨rfl, hb_⟩; have X6 := Aside0.mk (X5.out.below hb_); have HB6 := Aside0.mk hb_; have xc6 := X6.out.cell; clear hb_) | (go_at_call 16; ((with_reducible refine (fits_in HD.out H1.out HSM.out X6.out true HQ1.out).mono ?_)); rintro e_ wz7 ⟨rfl, hb_⟩; have X7 := Aside0.mk (X6.out.below hb_); have HB7 := Aside0.mk hb_; have xc7 := X7.out.cell; clear hb_) | (go_at_call 16; ((with_reducible refine (fits_in HD.out H2.out HSM.out X7.out true HQ2.out).mono ?_)); rintro e_ wz75 ⟨rfl, hb_⟩; have X75 := Aside0.mk (X7.out.below hb_); have HB75 := Aside0.mk hb_; have xc75 := X75.out.cell; clear hb_) | (go_at_call 14; ((with_reducible refine (ctext_in HD.out H2.out HSM.out HT.out X75.out sb HSB.out).mono ?_)); rintro e_ wz76 ⟨rfl, hb_⟩; have X76 := Aside0.mk (X75.out.below hb_); have HB76 := Aside0.mk hb_; have xc76 := X76.out.cell; clear hb_) | (go_at_call 17; ((with_reducible refine (equal_II H1.out H2.out X76.out.wb HLM.out true HBE.out).mono ?_)); rintro e_ wz77 ⟨rfl, hb_⟩; have X77 := Aside0.mk (X76.out.below hb_); have HB77 := Aside0.mk hb_; have xc77 := X77.out.cell; clear hb_) | (go_at_call 16; ((with_reducible refine (fits_in HD.out H1.out HSM.out X77.out true HQ1.out).mono ?_)); rintro e_ wz78 ⟨rfl, hb_⟩; have X78 := Aside0.mk (X77.out.below hb_); have HB78 := Aside0.mk hb_; have xc78 := X78.out.cell; clear hb_))
              clear hq1 hq2 hq3
              refine at_world (F := fun w' => Bx W bx A l0.length c w') X78.out ?_
              clear X4 xc4 V11
              intro w8 p_
              have X8 := Aside0.mk p_
              clear p_
              have xc8 := X8.out.cell
              go_upto_region 9 with (first | (go_at_call 15; ((with_reducible refine (case_in HD.out HSM.out X8.out s z1 z2 z3 HZ.out).mono ?_)); rintro e_ wz9 ⟨v14, rfl, hv_, hb_⟩; have X9 := Aside0.mk (X8.out.below hb_); have HB9 := Aside0.mk hb_; have xc9 := X9.out.cell; have V14_ := Aside0.mk hv_; clear hv_; clear hb_))
              obtain ⟨g14, V14⟩ : ∃ g, Aside0 (Kd.R (Kd.int .i64) 3 wz9 g (fun _ => True) v14 z1) := ⟨_, V14_⟩
              clear V14_
              rcases HZG.out with ⟨k1, k2, k3⟩ | ⟨k1, k2, k3⟩
              · have hf1 : (z2 != 0) = true := by rw [bne_iff_ne]; exact k1
                have hle : decide (z3 ≤ (s.size : Int)) = true := decide_eq_true k3
                obtain ⟨A14, c14, e14⟩ := Kd.R_slice V14.out
                have hz0 : z1 = [] := k2
                subst hz0
                subst e14
                clear k1 k2 k3
                go_wp2
                go_ret
                exact ⟨rfl, X9.out.wb⟩
              · have hz2 : z2 = 0 := k1
                have hz3 : z3 = 0 := k3
                have HFZ := Aside0.mk (show decide (Fits (l0.map toF) z1) = true from decide_eq_true k2)
                subst hz2
                subst hz3
                clear k1 k2 k3
                go_wp2_with (first | (go_at_call 16; ((with_reducible refine (fits_R HD.out HSM.out X9.out V14.out true HFZ.out).mono ?_)); rintro e_ wz10 ⟨rfl, hb_⟩; have X10 := Aside0.mk (X9.out.below hb_); have HB10 := Aside0.mk hb_; have xc10 := X10.out.cell; clear hb_))
                go_ret
                exact ⟨rfl, X10.out.wb⟩
end Go.Proofs.YtgddmfphlhlcjaaDoor.FcW
