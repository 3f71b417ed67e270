/- The law FactDomains answers true. -/
import Derived.Test.YtgddmfphlhlcjaaDoorMg20
namespace Go.Proofs.YtgddmfphlhlcjaaDoor.FcW
open Go.RowKit Go.Proofs.YtgddmfphlhlcjaaDoorW.PrintWords Go.Proofs.YtgddmfphlhlcjaaDoorW.PrintLast Go.Proofs.YtgddmfphlhlcjaaDoorW.PrintMore
open Go.Proofs.YtgddmfphlhlcjaaDoor Go.Proofs.YtgddmfphlhlcjaaDoor.PF Go.Proofs.YtgddmfphlhlcjaaDoor.LxP Go.Proofs.YtgddmfphlhlcjaaDoor.LxW Go.Proofs.YtgddmfphlhlcjaaDoor.FcP
set_option linter.unusedVariables false
set_option linter.unusedSimpArgs false

section
variable {W w : World} {b n : Nat} {A A1 : Option Addr} {c c1 m : Nat} {l0 k0 : List S42}
theorem few_n (hd : DomIn W A c l0) (hn : l0.length = n) (X : Bx W b A n c w) (r : Bool) (h : fewB l0 = r) : Calls Tryd.prog 9 #[.agg #[.slice A n c], .slice none 0 0] w fun e w' => e = .returned (.bool r) ∧ Below w.heap.size w w' := by
  subst hn
  obtain ⟨h1, h2, h3⟩ := Kd.R_reads' (Kd.R_nil (Kd.int .i64) 3 w 0 (fun _ => True))
  exact few_any A c l0 none 0 [] w (Kd.C_below hd.1 X.2) hd.2 h3 h2 r (by rw [← h]; simp)
theorem valid_n (hd : DomIn W A c l0) (hs : Small l0) (hn : l0.length = n) (X : Bx W b A n c w) (r : Bool) (h : decide (Valid (l0.map toF)) = r) : Calls Tryd.prog 11 #[.agg #[.slice A n c]] w fun e w' => e = .returned (.bool r) ∧ Below w.heap.size w w' := by
  subst hn
  subst h
  have h1 := valid_any A c l0 w (Kd.C_below hd.1 X.2) hs.1 hs.2
  rw [valid_eq] at h1
  exact h1
theorem text_n (hd : DomIn W A c l0) (hs : Small l0) (ht : Tab W) (hn : l0.length = n) (X : Bx W b A n c w) (s : ByteArray) (h : bs (text (l0.map toF)) = s) : Calls Tryd.prog 10 #[.agg #[.slice A n c]] w fun e w' => e = .returned (.string s) ∧ Below w.heap.size w w' := by
  subst hn
  subst h
  exact text_any A c l0 w (Kd.C_below hd.1 X.2) hd.2 (ht.below X.2) hs
theorem same_n (hd : DomIn W A c l0) (hn : l0.length = n) {b2 : Nat} (h2 : DomIn W A1 c1 k0) (hm : k0.length = m) (X : Bx W b A n c w) (Y : Bx W b2 A1 m c1 w) (hs : Small l0) (r : Bool) (h : decide (l0.map toF = k0.map toF) = r) : Calls Tryd.prog 13 #[.agg #[.slice A n c], .agg #[.slice A1 m c1]] w fun e w' => e = .returned (.bool r) ∧ Below w.heap.size w w' := by
  subst hn
  subst hm
  exact same_any A c l0 A1 c1 k0 w (Kd.C_below hd.1 X.2) hd.2 (Kd.C_below h2.1 X.2) h2.2 (by have := hs.1; omega) r h
theorem same_R (hd : DomIn W A c l0) (hn : l0.length = n) (X : Bx W b A n c w) {g : Nat} {ok : Nat → Prop} {v : Value} {y : List S42} (hv : Kd.R k42 42 w g ok v y) (hy : y.map toF = l0.map toF) (hs : Small l0) : Calls Tryd.prog 13 #[.agg #[v], .agg #[.slice A n c]] w fun e w' => e = .returned (.bool true) ∧ Below w.heap.size w w' := by
  subst hn
  obtain ⟨A2, c2, e2⟩ := Kd.R_slice hv
  subst e2
  obtain ⟨g1, g2, g3⟩ := Kd.R_reads' hv
  have hl : y.length = l0.length := by have := congrArg List.length hy; simpa using this
  exact same_any A2 c2 y A c l0 w g3 g2 (Kd.C_below hd.1 X.2) hd.2 (by have := hs.1; omega) true (decide_eq_true hy)
theorem valid_small {l : List S42} (h : Valid (l.map toF)) : Small l := by
  refine ⟨by have := h.2.2; rw [List.length_map] at this; omega, fun f hf => ?_⟩
  have h1 := (fact_cases (h.1 (toF f) (List.mem_map.2 ⟨f, hf, rfl⟩))).1
  simp only [nameOk, Bool.and_eq_true, decide_eq_true_eq] at h1
  have h2 : (byts f.f0).length ≤ 24 := h1.2
  rw [byts_length] at h2
  omega
theorem valid_R {g : Nat} {ok : Nat → Prop} {v : Value} {y : List S42} (hv : Kd.R k42 42 w g ok v y) (hy : Valid (y.map toF)) : Calls Tryd.prog 11 #[.agg #[v]] w fun e w' => e = .returned (.bool true) ∧ Below w.heap.size w w' := by
  obtain ⟨A2, c2, e2⟩ := Kd.R_slice hv
  subst e2
  obtain ⟨g1, g2, g3⟩ := Kd.R_reads' hv
  have h1 := valid_any A2 c2 y w g3 (valid_small hy).1 (valid_small hy).2
  rw [valid_eq, decide_eq_true hy] at h1
  exact h1
theorem parse_in (s : ByteArray) (r : List S42) (x y : Int) (hr : parseO s = (r, x, y)) (w : World) : Calls Tryd.prog 12 #[.string s] w fun e w' => ∃ v : Value, e = .returned (.tuple #[.agg #[v], .int .i64 x, .int .i64 y]) ∧ Kd.R k42 42 w' w.heap.size (fun _ => True) v r ∧ Below w.heap.size w w' :=
  parse_ex s r x y w hr
/-- What holds through the third look: the two domains, the variable of what was read. -/
def DmW (W : World) (bx bz b9 : Nat) (A : Option Addr) (n c : Nat) (A1 : Option Addr) (m c1 : Nat) (A9 : Option Addr) (c9 g9 : Nat) (y : List S42) (w : World) : Prop :=
  Bx W bx A n c w ∧ Bx W bz A1 m c1 w ∧ w.heap[b9]? = some (.cells #[.slice A9 y.length c9] 24 (0, 0)) ∧ Kd.R k42 42 w g9 (fun _ => True) (.slice A9 y.length c9) y
theorem DmW.below {bx bz b9 : Nat} {A9 : Option Addr} {c9 g9 : Nat} {y : List S42} {w' : World} (h : DmW W bx bz b9 A n c A1 m c1 A9 c9 g9 y w) (hb : Below w.heap.size w w') : DmW W bx bz b9 A n c A1 m c1 A9 c9 g9 y w' :=
  ⟨h.1.below hb, h.2.1.below hb, blk_below h.2.2.1 hb, Kd.R_below h.2.2.2 hb⟩
theorem DmW.cells {bx bz b9 : Nat} {A9 : Option Addr} {c9 g9 : Nat} {y : List S42} (h : DmW W bx bz b9 A n c A1 m c1 A9 c9 g9 y w) : w.cell? ⟨bx, 0, none⟩ = some (.slice A n c) ∧ w.cell? ⟨bz, 0, none⟩ = some (.slice A1 m c1) ∧ w.cell? ⟨b9, 0, none⟩ = some (.slice A9 y.length c9) :=
  ⟨h.1.cell, h.2.1.cell, (blk_cell h.2.2.1 0).trans rfl⟩
theorem str_eq {a b : ByteArray} {r : Bool} (h : decide (a.toList = b.toList) = r) : (a.toList == b.toList) = r := by
  rw [← h, Bool.eq_iff_iff, beq_iff_eq, decide_eq_true_eq]
end

set_option maxHeartbeats 64000000 in
set_option maxRecDepth 100000 in
theorem domains_early (A : Option Addr) (c : Nat) (l0 : List S42) (A1 : Option Addr) (c1 : Nat) (k0 : List S42) (s : ByteArray) (W : World) (hd : DomIn W A c l0) (h2 : DomIn W A1 c1 k0) (ht : Tab W) (hE : ¬ (fewB l0 = true ∧ fewB k0 = true ∧ s.size ≤ 3000)) :
    Calls Tryd.prog 3 #[.agg #[.slice A l0.length c], .agg #[.slice A1 k0.length c1], .string s] W fun e w' => e = .returned (.bool true) ∧ Below W.heap.size W w' := by
  have HD := Aside0.mk hd
  have H2 := Aside0.mk h2
  have HT := Aside0.mk ht
  clear hd h2 ht
  obtain ⟨n0, hn0⟩ : ∃ n0, l0.length = n0 := ⟨_, rfl⟩
  obtain ⟨m0, hm0⟩ : ∃ m0, k0.length = m0 := ⟨_, rfl⟩
  rw [hn0, hm0]
  have HN := Aside0.mk hn0
  have HM := Aside0.mk hm0
  clear hn0 hm0
  obtain ⟨bf, hbf⟩ : ∃ bf, fewB l0 = bf := ⟨_, rfl⟩
  obtain ⟨bg, hbg⟩ : ∃ bg, fewB k0 = bg := ⟨_, rfl⟩
  obtain ⟨bt_, hbt⟩ : ∃ bt_, decide ((3000 : Int) < (s.size : Int)) = bt_ := ⟨_, rfl⟩
  have hbt2 : decide (3000 < s.size) = bt_ := by rw [← hbt]; exact decide_eq_decide.2 (by omega)
  have HBF := Aside0.mk hbf
  have HBG := Aside0.mk hbg
  have HE := Aside0.mk hE
  clear hbf hbg hE
  go_enter Tryd.func3, Tryd.ntmps3
  go_upto_region 1 with (first | ((with_reducible refine gate_dst (N := 3) rfl ?_); (try (refine gate_guard (by rfl) ?_; dsimp only)); refine box_event ?hg (N := 3) ?hd (cs := #[.slice A n0 c]) (t := 24) ?hr ?_; (case hd => rfl); (case hg => rfl); (case hr => first | (go_simp; done) | (go_simp; rfl)); intro bx hg_bx wbx hbox hb; have BK_bx := Aside0.mk hbox; have HB_bx := Aside0.mk hb; have GE_bx := Aside0.mk (Nat.le_of_eq hg_bx.symm); clear hbox hb hg_bx) | ((with_reducible refine gate_dst (N := 4) rfl ?_); (try (refine gate_guard (by rfl) ?_; dsimp only)); refine box_event ?hg (N := 4) ?hd (cs := #[.slice A1 m0 c1]) (t := 24) ?hr ?_; (case hd => rfl); (case hg => rfl); (case hr => first | (go_simp; done) | (go_simp; rfl)); intro bz hg_bz wbz hbox hb; have BK_bz := Aside0.mk hbox; have HB_bz := Aside0.mk hb; have GE_bz := Aside0.mk (Nat.le_of_eq hg_bz.symm); clear hbox hb hg_bz))
  refine at_world (F := fun w' => Bx W bx A n0 c w' ∧ Bx W bz A1 m0 c1 w') ⟨⟨blk_below BK_bx.out HB_bz.out, below_step HB_bx.out HB_bz.out⟩, ⟨BK_bz.out, below_step HB_bx.out HB_bz.out⟩⟩ ?_
  clear BK_bx HB_bx GE_bx BK_bz HB_bz GE_bz
  rintro w0 ⟨p_, q_⟩
  have X0 := Aside0.mk p_
  have Y0 := Aside0.mk q_
  clear p_ q_
  have xc0 := X0.out.cell
  have yc0 := Y0.out.cell
  go_upto_region 2 with (first | (go_at_call 8; ((with_reducible refine (head_in HT.out X0.out.wb).mono ?_)); rintro e_ wz1 ⟨rfl, hb_⟩; have X1 := Aside0.mk (X0.out.below hb_); have Y1 := Aside0.mk (Y0.out.below hb_); have HB1 := Aside0.mk hb_; have xc1 := X1.out.cell; have yc1 := Y1.out.cell; clear hb_))
  cases bf with
  | false =>
    go_wp2_with (first | (go_at_call 9; ((with_reducible refine (few_n HD.out HN.out X1.out false HBF.out).mono ?_)); rintro e_ wz2 ⟨rfl, hb_⟩; have X2 := Aside0.mk (X1.out.below hb_); have Y2 := Aside0.mk (Y1.out.below hb_); have HB2 := Aside0.mk hb_; have xc2 := X2.out.cell; have yc2 := Y2.out.cell; clear hb_))
    go_ret
    exact ⟨rfl, X2.out.wb⟩
  | true =>
    cases bg with
    | false =>
      go_wp2_with (first | (go_at_call 9; ((with_reducible refine (few_n HD.out HN.out X1.out true HBF.out).mono ?_)); rintro e_ wz2 ⟨rfl, hb_⟩; have X2 := Aside0.mk (X1.out.below hb_); have Y2 := Aside0.mk (Y1.out.below hb_); have HB2 := Aside0.mk hb_; have xc2 := X2.out.cell; have yc2 := Y2.out.cell; clear hb_) | (go_at_call 9; ((with_reducible refine (few_n H2.out HM.out Y2.out false HBG.out).mono ?_)); rintro e_ wz3 ⟨rfl, hb_⟩; have X3 := Aside0.mk (X2.out.below hb_); have Y3 := Aside0.mk (Y2.out.below hb_); have HB3 := Aside0.mk hb_; have xc3 := X3.out.cell; have yc3 := Y3.out.cell; clear hb_))
      go_ret
      exact ⟨rfl, X3.out.wb⟩
    | true =>
      cases bt_ with
      | true =>
        go_wp2_with (first | (go_at_call 9; ((with_reducible refine (few_n HD.out HN.out X1.out true HBF.out).mono ?_)); rintro e_ wz2 ⟨rfl, hb_⟩; have X2 := Aside0.mk (X1.out.below hb_); have Y2 := Aside0.mk (Y1.out.below hb_); have HB2 := Aside0.mk hb_; have xc2 := X2.out.cell; have yc2 := Y2.out.cell; clear hb_) | (go_at_call 9; ((with_reducible refine (few_n H2.out HM.out Y2.out true HBG.out).mono ?_)); rintro e_ wz3 ⟨rfl, hb_⟩; have X3 := Aside0.mk (X2.out.below hb_); have Y3 := Aside0.mk (Y2.out.below hb_); have HB3 := Aside0.mk hb_; have xc3 := X3.out.cell; have yc3 := Y3.out.cell; clear hb_))
        go_ret
        exact ⟨rfl, X3.out.wb⟩
      | false => exact absurd ⟨HBF.out, HBG.out, by have := of_decide_eq_false hbt2; omega⟩ HE.out
set_option maxHeartbeats 64000000 in
set_option maxRecDepth 100000 in
theorem domains_A (A : Option Addr) (c : Nat) (l0 : List S42) (A1 : Option Addr) (c1 : Nat) (k0 : List S42) (s : ByteArray) (W : World) (hd : DomIn W A c l0) (h2 : DomIn W A1 c1 k0) (ht : Tab W) (hF : fewB l0 = true) (hG : fewB k0 = true) (hS : s.size ≤ 3000) (hv1 : decide (Valid (l0.map toF)) = false) :
    Calls Tryd.prog 3 #[.agg #[.slice A l0.length c], .agg #[.slice A1 k0.length c1], .string s] W fun e w' => e = .returned (.bool true) ∧ Below W.heap.size W w' := by
  have HD := Aside0.mk hd
  have H2 := Aside0.mk h2
  have HT := Aside0.mk ht
  clear hd h2 ht
  obtain ⟨n0, hn0⟩ : ∃ n0, l0.length = n0 := ⟨_, rfl⟩
  obtain ⟨m0, hm0⟩ : ∃ m0, k0.length = m0 := ⟨_, rfl⟩
  rw [hn0, hm0]
  have HN := Aside0.mk hn0
  have HM := Aside0.mk hm0
  clear hn0 hm0
  have HBF := Aside0.mk hF
  have HBG := Aside0.mk hG
  have hbt : decide ((3000 : Int) < (s.size : Int)) = false := decide_eq_false (by omega)
  have hbt2 : decide (3000 < s.size) = false := decide_eq_false (by omega)
  have HV1 := Aside0.mk hv1
  clear hF hG hv1
  go_enter Tryd.func3, Tryd.ntmps3
  go_upto_region 1 with (first | ((with_reducible refine gate_dst (N := 3) rfl ?_); (try (refine gate_guard (by rfl) ?_; dsimp only)); refine box_event ?hg (N := 3) ?hd (cs := #[.slice A n0 c]) (t := 24) ?hr ?_; (case hd => rfl); (case hg => rfl); (case hr => first | (go_simp; done) | (go_simp; rfl)); intro bx hg_bx wbx hbox hb; have BK_bx := Aside0.mk hbox; have HB_bx := Aside0.mk hb; have GE_bx := Aside0.mk (Nat.le_of_eq hg_bx.symm); clear hbox hb hg_bx) | ((with_reducible refine gate_dst (N := 4) rfl ?_); (try (refine gate_guard (by rfl) ?_; dsimp only)); refine box_event ?hg (N := 4) ?hd (cs := #[.slice A1 m0 c1]) (t := 24) ?hr ?_; (case hd => rfl); (case hg => rfl); (case hr => first | (go_simp; done) | (go_simp; rfl)); intro bz hg_bz wbz hbox hb; have BK_bz := Aside0.mk hbox; have HB_bz := Aside0.mk hb; have GE_bz := Aside0.mk (Nat.le_of_eq hg_bz.symm); clear hbox hb hg_bz))
  refine at_world (F := fun w' => Bx W bx A n0 c w' ∧ Bx W bz A1 m0 c1 w') ⟨⟨blk_below BK_bx.out HB_bz.out, below_step HB_bx.out HB_bz.out⟩, ⟨BK_bz.out, below_step HB_bx.out HB_bz.out⟩⟩ ?_
  clear BK_bx HB_bx GE_bx BK_bz HB_bz GE_bz
  rintro w0 ⟨p_, q_⟩
  have X0 := Aside0.mk p_
  have Y0 := Aside0.mk q_
  clear p_ q_
  have xc0 := X0.out.cell
  have yc0 := Y0.out.cell
  go_upto_region 2 with (first | (go_at_call 8; ((with_reducible refine (head_in HT.out X0.out.wb).mono ?_)); rintro e_ wz1 ⟨rfl, hb_⟩; have X1 := Aside0.mk (X0.out.below hb_); have Y1 := Aside0.mk (Y0.out.below hb_); have HB1 := Aside0.mk hb_; have xc1 := X1.out.cell; have yc1 := Y1.out.cell; clear hb_))
  have H3K := Aside0.mk (show s.size ≤ 3000 by have := of_decide_eq_false hbt2; omega)
  have HSM := Aside0.mk (few_small HBF.out).1
  have HSN := Aside0.mk (few_small HBG.out).1
  obtain ⟨sa, hsa⟩ : ∃ sa, bs (text (l0.map toF)) = sa := ⟨_, rfl⟩
  have HSA := Aside0.mk hsa
  clear hsa
  go_upto_region 4 with (first | (go_at_call 9; ((with_reducible refine (few_n HD.out HN.out X1.out true HBF.out).mono ?_)); rintro e_ wz2 ⟨rfl, hb_⟩; have X2 := Aside0.mk (X1.out.below hb_); have Y2 := Aside0.mk (Y1.out.below hb_); have HB2 := Aside0.mk hb_; have xc2 := X2.out.cell; have yc2 := Y2.out.cell; clear hb_) | (go_at_call 9; ((with_reducible refine (few_n H2.out HM.out Y2.out true HBG.out).mono ?_)); rintro e_ wz3 ⟨rfl, hb_⟩; have X3 := Aside0.mk (X2.out.below hb_); have Y3 := Aside0.mk (Y2.out.below hb_); have HB3 := Aside0.mk hb_; have xc3 := X3.out.cell; have yc3 := Y3.out.cell; clear hb_))
  refine at_world (F := fun w' => Bx W bx A n0 c w' ∧ Bx W bz A1 m0 c1 w') ⟨X3.out, Y3.out⟩ ?_
  clear X0 Y0 xc0 yc0 X1 Y1 xc1 yc1 X2 Y2 xc2 yc2 X3 Y3 xc3 yc3 HB1 HB2 HB3
  rintro w3 ⟨p_, q_⟩
  have X3 := Aside0.mk p_
  have Y3 := Aside0.mk q_
  clear p_ q_
  have xc3 := X3.out.cell
  have yc3 := Y3.out.cell
  go_upto_region 5 with (first | (go_at_call 10; ((with_reducible refine (text_n HD.out HSM.out HT.out HN.out X3.out sa HSA.out).mono ?_)); rintro e_ wz4 ⟨rfl, hb_⟩; have X4 := Aside0.mk (X3.out.below hb_); have Y4 := Aside0.mk (Y3.out.below hb_); have HB4 := Aside0.mk hb_; have xc4 := X4.out.cell; have yc4 := Y4.out.cell; clear hb_))
  obtain ⟨⟨y1, y2, y3⟩, hy⟩ : ∃ r, parseO sa = r := ⟨_, rfl⟩
  have HY := Aside0.mk hy
  clear hy
  obtain ⟨⟨z1, z2, z3⟩, hz⟩ : ∃ r, parseO s = r := ⟨_, rfl⟩
  have HZ := Aside0.mk hz
  have HZG := Aside0.mk (show DomGood s.size (z1, z2, z3) by rw [← hz]; exact parseO_ok s H3K.out)
  clear hz
  have hse : sa.toList = [] := by
    have hnf := of_decide_eq_false HV1.out
    rw [← HSA.out, bs_toList]
    unfold text
    rw [if_neg hnf]
  go_upto_region 7 with (first | (go_at_call 11; ((with_reducible refine (valid_n HD.out HSM.out HN.out X4.out false HV1.out).mono ?_)); rintro e_ wz5 ⟨rfl, hb_⟩; have X5 := Aside0.mk (X4.out.below hb_); have Y5 := Aside0.mk (Y4.out.below hb_); have HB5 := Aside0.mk hb_; have xc5 := X5.out.cell; have yc5 := Y5.out.cell; clear hb_))
  clear hse
  go_upto_region 8 with (first | (go_at_call 12; ((with_reducible refine (parse_in sa y1 y2 y3 HY.out _).mono ?_)); rintro e_ wz6 ⟨v9, rfl, hv_, hb_⟩; have X6 := Aside0.mk (X5.out.below hb_); have Y6 := Aside0.mk (Y5.out.below hb_); have HB6 := Aside0.mk hb_; have xc6 := X6.out.cell; have yc6 := Y6.out.cell; obtain ⟨A9, c9, e9⟩ := Kd.R_slice hv_; subst e9; have V9_ := Aside0.mk hv_; clear hv_; clear hb_) | ((with_reducible refine gate_dst (N := 9) rfl ?_); (try (refine gate_guard (by rfl) ?_; dsimp only)); refine box_event ?hg (N := 9) ?hd (cs := #[.slice none 0 0]) (t := 24) ?hr ?_; (case hd => rfl); (case hg => rfl); (case hr => first | (go_simp; done) | (go_simp; rfl)); intro b9 hg_b9 wb9 hbox hb; have BK_b9 := Aside0.mk hbox; have HB_b9 := Aside0.mk hb; have GE_b9 := Aside0.mk (Nat.le_of_eq hg_b9.symm); clear hbox hb hg_b9; have zb90 := (blk_cell BK_b9.out 0).trans (show _ = some (Value.slice none 0 0) from rfl); have fb90 := blk_frozen BK_b9.out 0))
  obtain ⟨g9, V9⟩ : ∃ g, Aside0 (Kd.R k42 42 wz6 g (fun _ => True) (.slice A9 y1.length c9) y1) := ⟨_, V9_⟩
  clear V9_
  refine at_world (F := fun w' => DmW W bx bz b9 A n0 c A1 m0 c1 A9 c9 g9 y1 w') ⟨X6.out.below (below_set HB_b9.out GE_b9.out), Y6.out.below (below_set HB_b9.out GE_b9.out), blk_put BK_b9.out 0 _ rfl, Kd.R_set (Kd.R_below V9.out HB_b9.out) BK_b9.out (by decide) 0 _⟩ ?_
  clear X3 Y3 xc3 yc3 X4 Y4 xc4 yc4 X5 Y5 xc5 yc5 X6 Y6 xc6 yc6 HB4 HB5 HB6 V9 BK_b9 HB_b9 GE_b9 zb90 fb90
  intro w8 p_
  have D8 := Aside0.mk p_
  clear p_
  obtain ⟨q0, q1, q2⟩ := D8.out.cells
  refine start_ (n := 30) (S := fun w' => w'.cell? ⟨bx, 0, none⟩ = some (.slice A n0 c) ∧ w'.cell? ⟨bz, 0, none⟩ = some (.slice A1 m0 c1) ∧ w'.cell? ⟨b9, 0, none⟩ = some (.slice A9 y1.length c9)) (ds := []) #[false, false, false, false, false, false, false, false, false, false, false, false, false, false, false, false, false, false, false, false, false, false, false, false, false, false, false, false, false, false] (by kernel_rfl) rfl rfl ⟨q0, q1, q2⟩ (fun hHeld => ?_)
  obtain ⟨wd, hwd⟩ : ∃ wd, w8.drew = wd := ⟨_, rfl⟩
  have D0 := Aside0.mk (show DmW W bx bz b9 A n0 c A1 m0 c1 A9 c9 g9 y1 wd by rw [← hwd]; exact D8.out.below (below_drew1 (Below.refl _ _)))
  rw [hwd] at hHeld ⊢
  clear hwd q0 q1 q2 D8
  refine take_ (i := 0) (N := some 50) (v := ?_) (a' := ?_) #[true, false, false, false, false, false, false, false, false, false, false, false, false, false, false, false, false, false, false, false, false, false, false, false, false, false, false, false, false, false] rfl rfl (by kernel_rfl) (fun _ _ _ h => h) (Or.inl ⟨by rfl, ?_⟩) hHeld ?_ ?_
  rotate_left
  · rintro w' ⟨s0, s1, s2⟩
    go_simp
    with_reducible rfl
  rotate_left
  · simp only [Act.put, List.setIfInBounds_toArray, List.set_cons_zero, List.set_cons_succ, i64_w, i32_w]
    rfl
  refine one_ (i := 1) (N := some 51) #[true, true, false, false, false, false, false, false, false, false, false, false, false, false, false, false, false, false, false, false, false, false, false, false, false, false, false, false, false, false] rfl rfl (by kernel_rfl) (by decide) (fun K hK => ?_)
  refine goes_ Tryd.func11 (by kernel_rfl) rfl #[.agg #[.slice A n0 c]] (by rfl) rfl rfl (by (try simp only [List.map_toArray, List.map_cons, List.map_nil]); first | done | rfl) ?_
  refine (valid_n HD.out HSM.out HN.out D0.out.1 false HV1.out).mono ?_
  rintro e_ wi1 ⟨rfl, bi⟩
  refine ⟨_, rfl, ?_⟩
  have D1 := Aside0.mk (D0.out.below bi)
  refine hK.out _ _ D1.out.cells (fun hHeld => ?_)
  clear hK K bi D0
  refine norm_ (a' := ?_) ?_ ?_
  rotate_left
  · show Act.put _ (some 51) _ = _
    simp only [Act.put, List.setIfInBounds_toArray, List.set_cons_zero, List.set_cons_succ, i64_w, i32_w]
    rfl
  refine pure_ (i := 2) (N := some 52) (v := ?_) (a' := ?_) #[true, true, true, false, false, false, false, false, false, false, false, false, false, false, false, false, false, false, false, false, false, false, false, false, false, false, false, false, false, false] rfl rfl (by kernel_rfl) (fun _ _ _ h => h) (Or.inl ⟨by rfl, ?_⟩) ?_ ?_
  rotate_left
  · intro w'
    go_simp
    with_reducible rfl
  rotate_left
  · simp only [Act.put, List.setIfInBounds_toArray, List.set_cons_zero, List.set_cons_succ, i64_w, i32_w]
    rfl
  refine pure_ (i := 3) (N := some 53) (v := undef) #[true, true, true, true, false, false, false, false, false, false, false, false, false, false, false, false, false, false, false, false, false, false, false, false, false, false, false, false, false, false] rfl rfl (by kernel_rfl) (fun _ _ _ h => h) (Or.inr ⟨by rfl, rfl⟩) rfl ?_
  refine norm_ (a' := ?_) ?_ ?_
  rotate_left
  · show Act.put _ (some 53) _ = _
    simp only [Act.put, List.setIfInBounds_toArray, List.set_cons_zero, List.set_cons_succ, i64_w, i32_w]
    rfl
  refine pure_ (i := 4) (N := some 54) (v := undef) #[true, true, true, true, true, false, false, false, false, false, false, false, false, false, false, false, false, false, false, false, false, false, false, false, false, false, false, false, false, false] rfl rfl (by kernel_rfl) (fun _ _ _ h => h) (Or.inr ⟨by rfl, rfl⟩) rfl ?_
  refine norm_ (a' := ?_) ?_ ?_
  rotate_left
  · show Act.put _ (some 54) _ = _
    simp only [Act.put, List.setIfInBounds_toArray, List.set_cons_zero, List.set_cons_succ, i64_w, i32_w]
    rfl
  refine pure_ (i := 5) (N := some 55) (v := undef) #[true, true, true, true, true, true, false, false, false, false, false, false, false, false, false, false, false, false, false, false, false, false, false, false, false, false, false, false, false, false] rfl rfl (by kernel_rfl) (fun _ _ _ h => h) (Or.inr ⟨by rfl, rfl⟩) rfl ?_
  refine norm_ (a' := ?_) ?_ ?_
  rotate_left
  · show Act.put _ (some 55) _ = _
    simp only [Act.put, List.setIfInBounds_toArray, List.set_cons_zero, List.set_cons_succ, i64_w, i32_w]
    rfl
  refine pure_ (i := 6) (N := some 56) (v := undef) #[true, true, true, true, true, true, true, false, false, false, false, false, false, false, false, false, false, false, false, false, false, false, false, false, false, false, false, false, false, false] rfl rfl (by kernel_rfl) (fun _ _ _ h => h) (Or.inr ⟨by rfl, rfl⟩) rfl ?_
  refine norm_ (a' := ?_) ?_ ?_
  rotate_left
  · show Act.put _ (some 56) _ = _
    simp only [Act.put, List.setIfInBounds_toArray, List.set_cons_zero, List.set_cons_succ, i64_w, i32_w]
    rfl
  refine pure_ (i := 7) (N := some 57) (v := undef) #[true, true, true, true, true, true, true, true, false, false, false, false, false, false, false, false, false, false, false, false, false, false, false, false, false, false, false, false, false, false] rfl rfl (by kernel_rfl) (fun _ _ _ h => h) (Or.inr ⟨by rfl, rfl⟩) rfl ?_
  refine norm_ (a' := ?_) ?_ ?_
  rotate_left
  · show Act.put _ (some 57) _ = _
    simp only [Act.put, List.setIfInBounds_toArray, List.set_cons_zero, List.set_cons_succ, i64_w, i32_w]
    rfl
  refine pure_ (i := 8) (N := some 58) (v := undef) #[true, true, true, true, true, true, true, true, true, false, false, false, false, false, false, false, false, false, false, false, false, false, false, false, false, false, false, false, false, false] rfl rfl (by kernel_rfl) (fun _ _ _ h => h) (Or.inr ⟨by rfl, rfl⟩) rfl ?_
  refine norm_ (a' := ?_) ?_ ?_
  rotate_left
  · show Act.put _ (some 58) _ = _
    simp only [Act.put, List.setIfInBounds_toArray, List.set_cons_zero, List.set_cons_succ, i64_w, i32_w]
    rfl
  refine pure_ (i := 9) (N := some 59) (v := undef) #[true, true, true, true, true, true, true, true, true, true, false, false, false, false, false, false, false, false, false, false, false, false, false, false, false, false, false, false, false, false] rfl rfl (by kernel_rfl) (fun _ _ _ h => h) (Or.inr ⟨by rfl, rfl⟩) rfl ?_
  refine norm_ (a' := ?_) ?_ ?_
  rotate_left
  · show Act.put _ (some 59) _ = _
    simp only [Act.put, List.setIfInBounds_toArray, List.set_cons_zero, List.set_cons_succ, i64_w, i32_w]
    rfl
  refine pure_ (i := 10) (N := some 60) (v := undef) #[true, true, true, true, true, true, true, true, true, true, true, false, false, false, false, false, false, false, false, false, false, false, false, false, false, false, false, false, false, false] rfl rfl (by kernel_rfl) (fun _ _ _ h => h) (Or.inr ⟨by rfl, rfl⟩) rfl ?_
  refine norm_ (a' := ?_) ?_ ?_
  rotate_left
  · show Act.put _ (some 60) _ = _
    simp only [Act.put, List.setIfInBounds_toArray, List.set_cons_zero, List.set_cons_succ, i64_w, i32_w]
    rfl
  refine pure_ (i := 11) (N := some 61) (v := ?_) (a' := ?_) #[true, true, true, true, true, true, true, true, true, true, true, true, false, false, false, false, false, false, false, false, false, false, false, false, false, false, false, false, false, false] rfl rfl (by kernel_rfl) (fun _ _ _ h => h) (Or.inl ⟨by rfl, ?_⟩) ?_ ?_
  rotate_left
  · intro w'
    go_simp
    with_reducible rfl
  rotate_left
  · simp only [Act.put, List.setIfInBounds_toArray, List.set_cons_zero, List.set_cons_succ, i64_w, i32_w]
    rfl
  refine pure_ (i := 12) (N := some 62) (v := ?_) (a' := ?_) #[true, true, true, true, true, true, true, true, true, true, true, true, true, false, false, false, false, false, false, false, false, false, false, false, false, false, false, false, false, false] rfl rfl (by kernel_rfl) (fun _ _ _ h => h) (Or.inl ⟨by rfl, ?_⟩) ?_ ?_
  rotate_left
  · intro w'
    go_simp
    with_reducible rfl
  rotate_left
  · simp only [Act.put, List.setIfInBounds_toArray, List.set_cons_zero, List.set_cons_succ, i64_w, i32_w]
    rfl
  refine take_ (i := 13) (N := some 63) (v := ?_) (a' := ?_) #[true, true, true, true, true, true, true, true, true, true, true, true, true, true, false, false, false, false, false, false, false, false, false, false, false, false, false, false, false, false] rfl rfl (by kernel_rfl) (fun _ _ _ h => h) (Or.inl ⟨by rfl, ?_⟩) hHeld ?_ ?_
  rotate_left
  · rintro w' ⟨s0, s1, s2⟩
    go_simp
    with_reducible rfl
  rotate_left
  · simp only [Act.put, List.setIfInBounds_toArray, List.set_cons_zero, List.set_cons_succ, i64_w, i32_w]
    rfl
  refine one_ (i := 14) (N := some 64) #[true, true, true, true, true, true, true, true, true, true, true, true, true, true, true, false, false, false, false, false, false, false, false, false, false, false, false, false, false, false] rfl rfl (by kernel_rfl) (by decide) (fun K hK => ?_)
  refine goes_ Tryd.func11 (by kernel_rfl) rfl #[.agg #[.slice A n0 c]] (by rfl) rfl rfl (by (try simp only [List.map_toArray, List.map_cons, List.map_nil]); first | done | rfl) ?_
  refine (valid_n HD.out HSM.out HN.out D1.out.1 false HV1.out).mono ?_
  rintro e_ wi2 ⟨rfl, bi⟩
  refine ⟨_, rfl, ?_⟩
  have D2 := Aside0.mk (D1.out.below bi)
  refine hK.out _ _ D2.out.cells (fun hHeld => ?_)
  clear hK K bi D1
  refine norm_ (a' := ?_) ?_ ?_
  rotate_left
  · show Act.put _ (some 64) _ = _
    simp only [Act.put, List.setIfInBounds_toArray, List.set_cons_zero, List.set_cons_succ, i64_w, i32_w]
    rfl
  refine pure_ (i := 15) (N := some 65) (v := ?_) (a' := ?_) #[true, true, true, true, true, true, true, true, true, true, true, true, true, true, true, true, false, false, false, false, false, false, false, false, false, false, false, false, false, false] rfl rfl (by kernel_rfl) (fun _ _ _ h => h) (Or.inl ⟨by rfl, ?_⟩) ?_ ?_
  rotate_left
  · intro w'
    go_simp
    with_reducible rfl
  rotate_left
  · simp only [Act.put, List.setIfInBounds_toArray, List.set_cons_zero, List.set_cons_succ, i64_w, i32_w]
    rfl
  refine pure_ (i := 16) (N := some 66) (v := undef) #[true, true, true, true, true, true, true, true, true, true, true, true, true, true, true, true, true, false, false, false, false, false, false, false, false, false, false, false, false, false] rfl rfl (by kernel_rfl) (fun _ _ _ h => h) (Or.inr ⟨by rfl, rfl⟩) rfl ?_
  refine norm_ (a' := ?_) ?_ ?_
  rotate_left
  · show Act.put _ (some 66) _ = _
    simp only [Act.put, List.setIfInBounds_toArray, List.set_cons_zero, List.set_cons_succ, i64_w, i32_w]
    rfl
  refine pure_ (i := 17) (N := some 67) (v := undef) #[true, true, true, true, true, true, true, true, true, true, true, true, true, true, true, true, true, true, false, false, false, false, false, false, false, false, false, false, false, false] rfl rfl (by kernel_rfl) (fun _ _ _ h => h) (Or.inr ⟨by rfl, rfl⟩) rfl ?_
  refine norm_ (a' := ?_) ?_ ?_
  rotate_left
  · show Act.put _ (some 67) _ = _
    simp only [Act.put, List.setIfInBounds_toArray, List.set_cons_zero, List.set_cons_succ, i64_w, i32_w]
    rfl
  refine pure_ (i := 18) (N := some 68) (v := ?_) (a' := ?_) #[true, true, true, true, true, true, true, true, true, true, true, true, true, true, true, true, true, true, true, false, false, false, false, false, false, false, false, false, false, false] rfl rfl (by kernel_rfl) (fun _ _ _ h => h) (Or.inl ⟨by rfl, ?_⟩) ?_ ?_
  rotate_left
  · intro w'
    go_simp
    with_reducible rfl
  rotate_left
  · simp only [Act.put, List.setIfInBounds_toArray, List.set_cons_zero, List.set_cons_succ, i64_w, i32_w]
    rfl
  refine pure_ (i := 19) (N := some 69) (v := ?_) (a' := ?_) #[true, true, true, true, true, true, true, true, true, true, true, true, true, true, true, true, true, true, true, true, false, false, false, false, false, false, false, false, false, false] rfl rfl (by kernel_rfl) (fun _ _ _ h => h) (Or.inl ⟨by rfl, ?_⟩) ?_ ?_
  rotate_left
  · intro w'
    go_simp
    with_reducible rfl
  rotate_left
  · simp only [Act.put, List.setIfInBounds_toArray, List.set_cons_zero, List.set_cons_succ, i64_w, i32_w]
    rfl
  refine pure_ (i := 20) (N := some 70) (v := undef) #[true, true, true, true, true, true, true, true, true, true, true, true, true, true, true, true, true, true, true, true, true, false, false, false, false, false, false, false, false, false] rfl rfl (by kernel_rfl) (fun _ _ _ h => h) (Or.inr ⟨by rfl, rfl⟩) rfl ?_
  refine norm_ (a' := ?_) ?_ ?_
  rotate_left
  · show Act.put _ (some 70) _ = _
    simp only [Act.put, List.setIfInBounds_toArray, List.set_cons_zero, List.set_cons_succ, i64_w, i32_w]
    rfl
  refine pure_ (i := 21) (N := some 71) (v := undef) #[true, true, true, true, true, true, true, true, true, true, true, true, true, true, true, true, true, true, true, true, true, true, false, false, false, false, false, false, false, false] rfl rfl (by kernel_rfl) (fun _ _ _ h => h) (Or.inr ⟨by rfl, rfl⟩) rfl ?_
  refine norm_ (a' := ?_) ?_ ?_
  rotate_left
  · show Act.put _ (some 71) _ = _
    simp only [Act.put, List.setIfInBounds_toArray, List.set_cons_zero, List.set_cons_succ, i64_w, i32_w]
    rfl
  refine pure_ (i := 22) (N := some 72) (v := undef) #[true, true, true, true, true, true, true, true, true, true, true, true, true, true, true, true, true, true, true, true, true, true, true, false, false, false, false, false, false, false] rfl rfl (by kernel_rfl) (fun _ _ _ h => h) (Or.inr ⟨by rfl, rfl⟩) rfl ?_
  refine norm_ (a' := ?_) ?_ ?_
  rotate_left
  · show Act.put _ (some 72) _ = _
    simp only [Act.put, List.setIfInBounds_toArray, List.set_cons_zero, List.set_cons_succ, i64_w, i32_w]
    rfl
  refine pure_ (i := 23) (N := some 73) (v := undef) #[true, true, true, true, true, true, true, true, true, true, true, true, true, true, true, true, true, true, true, true, true, true, true, true, false, false, false, false, false, false] rfl rfl (by kernel_rfl) (fun _ _ _ h => h) (Or.inr ⟨by rfl, rfl⟩) rfl ?_
  refine norm_ (a' := ?_) ?_ ?_
  rotate_left
  · show Act.put _ (some 73) _ = _
    simp only [Act.put, List.setIfInBounds_toArray, List.set_cons_zero, List.set_cons_succ, i64_w, i32_w]
    rfl
  refine pure_ (i := 24) (N := some 74) (v := undef) #[true, true, true, true, true, true, true, true, true, true, true, true, true, true, true, true, true, true, true, true, true, true, true, true, true, false, false, false, false, false] rfl rfl (by kernel_rfl) (fun _ _ _ h => h) (Or.inr ⟨by rfl, rfl⟩) rfl ?_
  refine norm_ (a' := ?_) ?_ ?_
  rotate_left
  · show Act.put _ (some 74) _ = _
    simp only [Act.put, List.setIfInBounds_toArray, List.set_cons_zero, List.set_cons_succ, i64_w, i32_w]
    rfl
  refine pure_ (i := 25) (N := some 75) (v := undef) #[true, true, true, true, true, true, true, true, true, true, true, true, true, true, true, true, true, true, true, true, true, true, true, true, true, true, false, false, false, false] rfl rfl (by kernel_rfl) (fun _ _ _ h => h) (Or.inr ⟨by rfl, rfl⟩) rfl ?_
  refine norm_ (a' := ?_) ?_ ?_
  rotate_left
  · show Act.put _ (some 75) _ = _
    simp only [Act.put, List.setIfInBounds_toArray, List.set_cons_zero, List.set_cons_succ, i64_w, i32_w]
    rfl
  refine pure_ (i := 26) (N := some 76) (v := undef) #[true, true, true, true, true, true, true, true, true, true, true, true, true, true, true, true, true, true, true, true, true, true, true, true, true, true, true, false, false, false] rfl rfl (by kernel_rfl) (fun _ _ _ h => h) (Or.inr ⟨by rfl, rfl⟩) rfl ?_
  refine norm_ (a' := ?_) ?_ ?_
  rotate_left
  · show Act.put _ (some 76) _ = _
    simp only [Act.put, List.setIfInBounds_toArray, List.set_cons_zero, List.set_cons_succ, i64_w, i32_w]
    rfl
  refine pure_ (i := 27) (N := some 77) (v := undef) #[true, true, true, true, true, true, true, true, true, true, true, true, true, true, true, true, true, true, true, true, true, true, true, true, true, true, true, true, false, false] rfl rfl (by kernel_rfl) (fun _ _ _ h => h) (Or.inr ⟨by rfl, rfl⟩) rfl ?_
  refine norm_ (a' := ?_) ?_ ?_
  rotate_left
  · show Act.put _ (some 77) _ = _
    simp only [Act.put, List.setIfInBounds_toArray, List.set_cons_zero, List.set_cons_succ, i64_w, i32_w]
    rfl
  refine pure_ (i := 28) (N := some 78) (v := ?_) (a' := ?_) #[true, true, true, true, true, true, true, true, true, true, true, true, true, true, true, true, true, true, true, true, true, true, true, true, true, true, true, true, true, false] rfl rfl (by kernel_rfl) (fun _ _ _ h => h) (Or.inl ⟨by rfl, ?_⟩) ?_ ?_
  rotate_left
  · intro w'
    go_simp
    with_reducible rfl
  rotate_left
  · simp only [Act.put, List.setIfInBounds_toArray, List.set_cons_zero, List.set_cons_succ, i64_w, i32_w]
    rfl
  refine pure_ (i := 29) (N := some 79) (v := ?_) (a' := ?_) #[true, true, true, true, true, true, true, true, true, true, true, true, true, true, true, true, true, true, true, true, true, true, true, true, true, true, true, true, true, true] rfl rfl (by kernel_rfl) (fun _ _ _ h => h) (Or.inl ⟨by rfl, ?_⟩) ?_ ?_
  rotate_left
  · intro w'
    go_simp
    with_reducible rfl
  rotate_left
  · simp only [Act.put, List.setIfInBounds_toArray, List.set_cons_zero, List.set_cons_succ, i64_w, i32_w]
    rfl
  refine done_ (by kernel_rfl) ?_
  have X7 := Aside0.mk D2.out.1
  have Y7 := Aside0.mk D2.out.2.1
  clear hHeld D2
  go_upto_region 11 with (first | (go_at_call 12; ((with_reducible refine (parse_in s z1 z2 z3 HZ.out _).mono ?_)); rintro e_ wz8 ⟨v12, rfl, hv_, hb_⟩; have X8 := Aside0.mk (X7.out.below hb_); have Y8 := Aside0.mk (Y7.out.below hb_); have HB8 := Aside0.mk hb_; have xc8 := X8.out.cell; have yc8 := Y8.out.cell; obtain ⟨A12, c12, e12⟩ := Kd.R_slice hv_; subst e12; have V12_ := Aside0.mk hv_; clear hv_; clear hb_) | ((with_reducible refine gate_dst (N := 12) rfl ?_); (try (refine gate_guard (by rfl) ?_; dsimp only)); refine box_event ?hg (N := 12) ?hd (cs := #[.slice none 0 0]) (t := 24) ?hr ?_; (case hd => rfl); (case hg => rfl); (case hr => first | (go_simp; done) | (go_simp; rfl)); intro b12 hg_b12 wb12 hbox hb; have BK_b12 := Aside0.mk hbox; have HB_b12 := Aside0.mk hb; have GE_b12 := Aside0.mk (Nat.le_of_eq hg_b12.symm); clear hbox hb hg_b12; have zb120 := (blk_cell BK_b12.out 0).trans (show _ = some (Value.slice none 0 0) from rfl); have fb120 := blk_frozen BK_b12.out 0))
  obtain ⟨g12, V12⟩ : ∃ g, Aside0 (Kd.R k42 42 wz8 g (fun _ => True) (.slice A12 z1.length c12) z1) := ⟨_, V12_⟩
  clear V12_
  refine at_world (F := fun w' => Bx W bx A n0 c w' ∧ w'.heap[b12]? = some (.cells #[.slice A12 z1.length c12] 24 (0, 0)) ∧ Kd.R k42 42 w' g12 (fun _ => True) (.slice A12 z1.length c12) z1) ⟨X8.out.below (below_set HB_b12.out GE_b12.out), blk_put BK_b12.out 0 _ rfl, Kd.R_set (Kd.R_below V12.out HB_b12.out) BK_b12.out (by decide) 0 _⟩ ?_
  clear X7 Y7 X8 Y8 xc8 yc8 HB8 V12 BK_b12 HB_b12 GE_b12 zb120 fb120
  rintro w9 ⟨p_, q_, r_⟩
  have X9 := Aside0.mk p_
  have U9 := Aside0.mk r_
  have u9 := (blk_cell q_ 0).trans (show _ = some (Value.slice A12 z1.length c12) from rfl)
  clear p_ q_ r_
  rcases HZG.out with ⟨k1, k2, k3⟩ | ⟨k1, k2, k3⟩
  · have hf1 : (z2 != 0) = true := by rw [bne_iff_ne]; exact k1
    have hle : decide (z3 ≤ (s.size : Int)) = true := decide_eq_true k3
    have hz0 : z1 = [] := k2
    subst hz0
    clear k1 k2 k3
    go_wp2
    go_ret
    exact ⟨rfl, X9.out.wb⟩
  · have hz2 : z2 = 0 := k1
    have hz3 : z3 = 0 := k3
    have HFZ := Aside0.mk (show Valid (z1.map toF) from k2)
    subst hz2
    subst hz3
    clear k1 k2 k3
    go_wp2_with (first | (go_at_call 11; ((with_reducible refine (valid_R U9.out HFZ.out).mono ?_)); rintro e_ wz10 ⟨rfl, hb_⟩; have X10 := Aside0.mk (X9.out.below hb_); clear hb_))
    go_ret
    exact ⟨rfl, X10.out.wb⟩
set_option maxHeartbeats 64000000 in
set_option maxRecDepth 100000 in
theorem domains_B (A : Option Addr) (c : Nat) (l0 : List S42) (A1 : Option Addr) (c1 : Nat) (k0 : List S42) (s : ByteArray) (W : World) (hd : DomIn W A c l0) (h2 : DomIn W A1 c1 k0) (ht : Tab W) (hF : fewB l0 = true) (hG : fewB k0 = true) (hS : s.size ≤ 3000) (hv1 : decide (Valid (l0.map toF)) = true) (hv2 : decide (Valid (k0.map toF)) = false) :
    Calls Tryd.prog 3 #[.agg #[.slice A l0.length c], .agg #[.slice A1 k0.length c1], .string s] W fun e w' => e = .returned (.bool true) ∧ Below W.heap.size W w' := by
  have HD := Aside0.mk hd
  have H2 := Aside0.mk h2
  have HT := Aside0.mk ht
  clear hd h2 ht
  obtain ⟨n0, hn0⟩ : ∃ n0, l0.length = n0 := ⟨_, rfl⟩
  obtain ⟨m0, hm0⟩ : ∃ m0, k0.length = m0 := ⟨_, rfl⟩
  rw [hn0, hm0]
  have HN := Aside0.mk hn0
  have HM := Aside0.mk hm0
  clear hn0 hm0
  have HBF := Aside0.mk hF
  have HBG := Aside0.mk hG
  have hbt : decide ((3000 : Int) < (s.size : Int)) = false := decide_eq_false (by omega)
  have hbt2 : decide (3000 < s.size) = false := decide_eq_false (by omega)
  have HV1 := Aside0.mk hv1
  have HV2 := Aside0.mk hv2
  clear hv2
  clear hF hG hv1
  go_enter Tryd.func3, Tryd.ntmps3
  go_upto_region 1 with (first | ((with_reducible refine gate_dst (N := 3) rfl ?_); (try (refine gate_guard (by rfl) ?_; dsimp only)); refine box_event ?hg (N := 3) ?hd (cs := #[.slice A n0 c]) (t := 24) ?hr ?_; (case hd => rfl); (case hg => rfl); (case hr => first | (go_simp; done) | (go_simp; rfl)); intro bx hg_bx wbx hbox hb; have BK_bx := Aside0.mk hbox; have HB_bx := Aside0.mk hb; have GE_bx := Aside0.mk (Nat.le_of_eq hg_bx.symm); clear hbox hb hg_bx) | ((with_reducible refine gate_dst (N := 4) rfl ?_); (try (refine gate_guard (by rfl) ?_; dsimp only)); refine box_event ?hg (N := 4) ?hd (cs := #[.slice A1 m0 c1]) (t := 24) ?hr ?_; (case hd => rfl); (case hg => rfl); (case hr => first | (go_simp; done) | (go_simp; rfl)); intro bz hg_bz wbz hbox hb; have BK_bz := Aside0.mk hbox; have HB_bz := Aside0.mk hb; have GE_bz := Aside0.mk (Nat.le_of_eq hg_bz.symm); clear hbox hb hg_bz))
  refine at_world (F := fun w' => Bx W bx A n0 c w' ∧ Bx W bz A1 m0 c1 w') ⟨⟨blk_below BK_bx.out HB_bz.out, below_step HB_bx.out HB_bz.out⟩, ⟨BK_bz.out, below_step HB_bx.out HB_bz.out⟩⟩ ?_
  clear BK_bx HB_bx GE_bx BK_bz HB_bz GE_bz
  rintro w0 ⟨p_, q_⟩
  have X0 := Aside0.mk p_
  have Y0 := Aside0.mk q_
  clear p_ q_
  have xc0 := X0.out.cell
  have yc0 := Y0.out.cell
  go_upto_region 2 with (first | (go_at_call 8; ((with_reducible refine (head_in HT.out X0.out.wb).mono ?_)); rintro e_ wz1 ⟨rfl, hb_⟩; have X1 := Aside0.mk (X0.out.below hb_); have Y1 := Aside0.mk (Y0.out.below hb_); have HB1 := Aside0.mk hb_; have xc1 := X1.out.cell; have yc1 := Y1.out.cell; clear hb_))
  have H3K := Aside0.mk (show s.size ≤ 3000 by have := of_decide_eq_false hbt2; omega)
  have HSM := Aside0.mk (few_small HBF.out).1
  have HSN := Aside0.mk (few_small HBG.out).1
  obtain ⟨sa, hsa⟩ : ∃ sa, bs (text (l0.map toF)) = sa := ⟨_, rfl⟩
  have HSA := Aside0.mk hsa
  clear hsa
  go_upto_region 4 with (first | (go_at_call 9; ((with_reducible refine (few_n HD.out HN.out X1.out true HBF.out).mono ?_)); rintro e_ wz2 ⟨rfl, hb_⟩; have X2 := Aside0.mk (X1.out.below hb_); have Y2 := Aside0.mk (Y1.out.below hb_); have HB2 := Aside0.mk hb_; have xc2 := X2.out.cell; have yc2 := Y2.out.cell; clear hb_) | (go_at_call 9; ((with_reducible refine (few_n H2.out HM.out Y2.out true HBG.out).mono ?_)); rintro e_ wz3 ⟨rfl, hb_⟩; have X3 := Aside0.mk (X2.out.below hb_); have Y3 := Aside0.mk (Y2.out.below hb_); have HB3 := Aside0.mk hb_; have xc3 := X3.out.cell; have yc3 := Y3.out.cell; clear hb_))
  refine at_world (F := fun w' => Bx W bx A n0 c w' ∧ Bx W bz A1 m0 c1 w') ⟨X3.out, Y3.out⟩ ?_
  clear X0 Y0 xc0 yc0 X1 Y1 xc1 yc1 X2 Y2 xc2 yc2 X3 Y3 xc3 yc3 HB1 HB2 HB3
  rintro w3 ⟨p_, q_⟩
  have X3 := Aside0.mk p_
  have Y3 := Aside0.mk q_
  clear p_ q_
  have xc3 := X3.out.cell
  have yc3 := Y3.out.cell
  go_upto_region 5 with (first | (go_at_call 10; ((with_reducible refine (text_n HD.out HSM.out HT.out HN.out X3.out sa HSA.out).mono ?_)); rintro e_ wz4 ⟨rfl, hb_⟩; have X4 := Aside0.mk (X3.out.below hb_); have Y4 := Aside0.mk (Y3.out.below hb_); have HB4 := Aside0.mk hb_; have xc4 := X4.out.cell; have yc4 := Y4.out.cell; clear hb_))
  obtain ⟨⟨y1, y2, y3⟩, hy⟩ : ∃ r, parseO sa = r := ⟨_, rfl⟩
  have HY := Aside0.mk hy
  clear hy
  obtain ⟨⟨z1, z2, z3⟩, hz⟩ : ∃ r, parseO s = r := ⟨_, rfl⟩
  have HZ := Aside0.mk hz
  have HZG := Aside0.mk (show DomGood s.size (z1, z2, z3) by rw [← hz]; exact parseO_ok s H3K.out)
  clear hz
  have HVL := Aside0.mk (of_decide_eq_true HV1.out)
  have hyy := HY.out
  rw [← HSA.out, parse_back HVL.out] at hyy
  injection hyy with e1 hyy
  injection hyy with e2 e3
  have HY1 := Aside0.mk (show y1.map toF = l0.map toF by rw [← e1, toF_ofF])
  clear e1
  subst e2; subst e3
  obtain ⟨bz_, hbz⟩ : ∃ bz_, decide (n0 = 0) = bz_ := ⟨_, rfl⟩
  have hz1 : ((n0 : Int) == 0) = bz_ := by rw [← hbz, Bool.eq_iff_iff, beq_iff_eq, decide_eq_true_eq]; omega
  have hz2 : (n0 == 0) = bz_ := by rw [← hbz, Bool.eq_iff_iff, beq_iff_eq, decide_eq_true_eq]
  have hz3 : decide ((n0 : Int) = 0) = bz_ := by rw [← hbz]; exact decide_eq_decide.2 (by omega)
  have HTN := Aside0.mk (show sa.toList = [] ↔ n0 = 0 by
    rw [← HSA.out, bs_toList, text_none, ← HN.out]
    have := HVL.out
    simp [this])
  have hs1 : decide (sa.toList = []) = bz_ := by rw [← hbz]; exact decide_eq_decide.2 HTN.out
  have hs2 : (sa.toList == []) = bz_ := by rw [← hs1, Bool.eq_iff_iff, beq_iff_eq, decide_eq_true_eq]
  have hs3 : sa.toList.isEmpty = bz_ := by rw [← hs1, Bool.eq_iff_iff, List.isEmpty_iff, decide_eq_true_eq]
  go_upto_region 7 with (first | (go_at_call 11; ((with_reducible refine (valid_n HD.out HSM.out HN.out X4.out true HV1.out).mono ?_)); rintro e_ wz5 ⟨rfl, hb_⟩; have X5 := Aside0.mk (X4.out.below hb_); have Y5 := Aside0.mk (Y4.out.below hb_); have HB5 := Aside0.mk hb_; have xc5 := X5.out.cell; have yc5 := Y5.out.cell; clear hb_))
  clear hz1 hz2 hz3 hs1 hs2 hs3
  go_upto_region 8 with (first | (go_at_call 12; ((with_reducible refine (parse_in sa y1 0 0 HY.out _).mono ?_)); rintro e_ wz6 ⟨v9, rfl, hv_, hb_⟩; have X6 := Aside0.mk (X5.out.below hb_); have Y6 := Aside0.mk (Y5.out.below hb_); have HB6 := Aside0.mk hb_; have xc6 := X6.out.cell; have yc6 := Y6.out.cell; obtain ⟨A9, c9, e9⟩ := Kd.R_slice hv_; subst e9; have V9_ := Aside0.mk hv_; clear hv_; clear hb_) | ((with_reducible refine gate_dst (N := 9) rfl ?_); (try (refine gate_guard (by rfl) ?_; dsimp only)); refine box_event ?hg (N := 9) ?hd (cs := #[.slice none 0 0]) (t := 24) ?hr ?_; (case hd => rfl); (case hg => rfl); (case hr => first | (go_simp; done) | (go_simp; rfl)); intro b9 hg_b9 wb9 hbox hb; have BK_b9 := Aside0.mk hbox; have HB_b9 := Aside0.mk hb; have GE_b9 := Aside0.mk (Nat.le_of_eq hg_b9.symm); clear hbox hb hg_b9; have zb90 := (blk_cell BK_b9.out 0).trans (show _ = some (Value.slice none 0 0) from rfl); have fb90 := blk_frozen BK_b9.out 0))
  obtain ⟨g9, V9⟩ : ∃ g, Aside0 (Kd.R k42 42 wz6 g (fun _ => True) (.slice A9 y1.length c9) y1) := ⟨_, V9_⟩
  clear V9_
  refine at_world (F := fun w' => DmW W bx bz b9 A n0 c A1 m0 c1 A9 c9 g9 y1 w') ⟨X6.out.below (below_set HB_b9.out GE_b9.out), Y6.out.below (below_set HB_b9.out GE_b9.out), blk_put BK_b9.out 0 _ rfl, Kd.R_set (Kd.R_below V9.out HB_b9.out) BK_b9.out (by decide) 0 _⟩ ?_
  clear X3 Y3 xc3 yc3 X4 Y4 xc4 yc4 X5 Y5 xc5 yc5 X6 Y6 xc6 yc6 HB4 HB5 HB6 V9 BK_b9 HB_b9 GE_b9 zb90 fb90
  intro w8 p_
  have D8 := Aside0.mk p_
  clear p_
  obtain ⟨q0, q1, q2⟩ := D8.out.cells
  refine start_ (n := 30) (S := fun w' => w'.cell? ⟨bx, 0, none⟩ = some (.slice A n0 c) ∧ w'.cell? ⟨bz, 0, none⟩ = some (.slice A1 m0 c1) ∧ w'.cell? ⟨b9, 0, none⟩ = some (.slice A9 y1.length c9)) (ds := []) #[false, false, false, false, false, false, false, false, false, false, false, false, false, false, false, false, false, false, false, false, false, false, false, false, false, false, false, false, false, false] (by kernel_rfl) rfl rfl ⟨q0, q1, q2⟩ (fun hHeld => ?_)
  obtain ⟨wd, hwd⟩ : ∃ wd, w8.drew = wd := ⟨_, rfl⟩
  have D0 := Aside0.mk (show DmW W bx bz b9 A n0 c A1 m0 c1 A9 c9 g9 y1 wd by rw [← hwd]; exact D8.out.below (below_drew1 (Below.refl _ _)))
  rw [hwd] at hHeld ⊢
  clear hwd q0 q1 q2 D8
  refine take_ (i := 0) (N := some 50) (v := ?_) (a' := ?_) #[true, false, false, false, false, false, false, false, false, false, false, false, false, false, false, false, false, false, false, false, false, false, false, false, false, false, false, false, false, false] rfl rfl (by kernel_rfl) (fun _ _ _ h => h) (Or.inl ⟨by rfl, ?_⟩) hHeld ?_ ?_
  rotate_left
  · rintro w' ⟨s0, s1, s2⟩
    go_simp
    with_reducible rfl
  rotate_left
  · simp only [Act.put, List.setIfInBounds_toArray, List.set_cons_zero, List.set_cons_succ, i64_w, i32_w]
    rfl
  refine one_ (i := 1) (N := some 51) #[true, true, false, false, false, false, false, false, false, false, false, false, false, false, false, false, false, false, false, false, false, false, false, false, false, false, false, false, false, false] rfl rfl (by kernel_rfl) (by decide) (fun K hK => ?_)
  refine goes_ Tryd.func11 (by kernel_rfl) rfl #[.agg #[.slice A n0 c]] (by rfl) rfl rfl (by (try simp only [List.map_toArray, List.map_cons, List.map_nil]); first | done | rfl) ?_
  refine (valid_n HD.out HSM.out HN.out D0.out.1 true HV1.out).mono ?_
  rintro e_ wi1 ⟨rfl, bi⟩
  refine ⟨_, rfl, ?_⟩
  have D1 := Aside0.mk (D0.out.below bi)
  refine hK.out _ _ D1.out.cells (fun hHeld => ?_)
  clear hK K bi D0
  refine norm_ (a' := ?_) ?_ ?_
  rotate_left
  · show Act.put _ (some 51) _ = _
    simp only [Act.put, List.setIfInBounds_toArray, List.set_cons_zero, List.set_cons_succ, i64_w, i32_w]
    rfl
  refine pure_ (i := 2) (N := some 52) (v := ?_) (a' := ?_) #[true, true, true, false, false, false, false, false, false, false, false, false, false, false, false, false, false, false, false, false, false, false, false, false, false, false, false, false, false, false] rfl rfl (by kernel_rfl) (fun _ _ _ h => h) (Or.inl ⟨by rfl, ?_⟩) ?_ ?_
  rotate_left
  · intro w'
    go_simp
    with_reducible rfl
  rotate_left
  · simp only [Act.put, List.setIfInBounds_toArray, List.set_cons_zero, List.set_cons_succ, i64_w, i32_w]
    rfl
  refine pure_ (i := 3) (N := some 53) (v := ?_) (a' := ?_) #[true, true, true, true, false, false, false, false, false, false, false, false, false, false, false, false, false, false, false, false, false, false, false, false, false, false, false, false, false, false] rfl rfl (by kernel_rfl) (fun _ _ _ h => h) (Or.inl ⟨by rfl, ?_⟩) ?_ ?_
  rotate_left
  · intro w'
    go_simp
    with_reducible rfl
  rotate_left
  · simp only [Act.put, List.setIfInBounds_toArray, List.set_cons_zero, List.set_cons_succ, i64_w, i32_w]
    rfl
  refine pure_ (i := 4) (N := some 54) (v := ?_) (a' := ?_) #[true, true, true, true, true, false, false, false, false, false, false, false, false, false, false, false, false, false, false, false, false, false, false, false, false, false, false, false, false, false] rfl rfl (by kernel_rfl) (fun _ _ _ h => h) (Or.inl ⟨by rfl, ?_⟩) ?_ ?_
  rotate_left
  · intro w'
    go_simp
    with_reducible rfl
  rotate_left
  · simp only [Act.put, List.setIfInBounds_toArray, List.set_cons_zero, List.set_cons_succ, i64_w, i32_w]
    rfl
  refine pure_ (i := 5) (N := some 55) (v := ?_) (a' := ?_) #[true, true, true, true, true, true, false, false, false, false, false, false, false, false, false, false, false, false, false, false, false, false, false, false, false, false, false, false, false, false] rfl rfl (by kernel_rfl) (fun _ _ _ h => h) (Or.inl ⟨by rfl, ?_⟩) ?_ ?_
  rotate_left
  · intro w'
    go_simp
    with_reducible rfl
  rotate_left
  · simp only [Act.put, List.setIfInBounds_toArray, List.set_cons_zero, List.set_cons_succ, i64_w, i32_w]
    rfl
  refine take_ (i := 6) (N := some 56) (v := ?_) (a' := ?_) #[true, true, true, true, true, true, true, false, false, false, false, false, false, false, false, false, false, false, false, false, false, false, false, false, false, false, false, false, false, false] rfl rfl (by kernel_rfl) (fun _ _ _ h => h) (Or.inl ⟨by rfl, ?_⟩) hHeld ?_ ?_
  rotate_left
  · rintro w' ⟨s0, s1, s2⟩
    go_simp
    with_reducible rfl
  rotate_left
  · simp only [Act.put, List.setIfInBounds_toArray, List.set_cons_zero, List.set_cons_succ, i64_w, i32_w]
    rfl
  refine take_ (i := 7) (N := some 57) (v := ?_) (a' := ?_) #[true, true, true, true, true, true, true, true, false, false, false, false, false, false, false, false, false, false, false, false, false, false, false, false, false, false, false, false, false, false] rfl rfl (by kernel_rfl) (fun _ _ _ h => h) (Or.inl ⟨by rfl, ?_⟩) hHeld ?_ ?_
  rotate_left
  · rintro w' ⟨s0, s1, s2⟩
    go_simp
    with_reducible rfl
  rotate_left
  · simp only [Act.put, List.setIfInBounds_toArray, List.set_cons_zero, List.set_cons_succ, i64_w, i32_w]
    rfl
  refine one_ (i := 8) (N := some 58) #[true, true, true, true, true, true, true, true, true, false, false, false, false, false, false, false, false, false, false, false, false, false, false, false, false, false, false, false, false, false] rfl rfl (by kernel_rfl) (by decide) (fun K hK => ?_)
  refine goes_ Tryd.func13 (by kernel_rfl) rfl #[.agg #[.slice A9 y1.length c9], .agg #[.slice A n0 c]] (by rfl) rfl rfl (by (try simp only [List.map_toArray, List.map_cons, List.map_nil]); first | done | rfl) ?_
  refine (same_R HD.out HN.out D1.out.1 D1.out.2.2.2 HY1.out HSM.out).mono ?_
  rintro e_ wi2 ⟨rfl, bi⟩
  refine ⟨_, rfl, ?_⟩
  have D2 := Aside0.mk (D1.out.below bi)
  refine hK.out _ _ D2.out.cells (fun hHeld => ?_)
  clear hK K bi D1
  refine norm_ (a' := ?_) ?_ ?_
  rotate_left
  · show Act.put _ (some 58) _ = _
    simp only [Act.put, List.setIfInBounds_toArray, List.set_cons_zero, List.set_cons_succ, i64_w, i32_w]
    rfl
  refine pure_ (i := 9) (N := some 59) (v := ?_) (a' := ?_) #[true, true, true, true, true, true, true, true, true, true, false, false, false, false, false, false, false, false, false, false, false, false, false, false, false, false, false, false, false, false] rfl rfl (by kernel_rfl) (fun _ _ _ h => h) (Or.inl ⟨by rfl, ?_⟩) ?_ ?_
  rotate_left
  · intro w'
    go_simp
    with_reducible rfl
  rotate_left
  · simp only [Act.put, List.setIfInBounds_toArray, List.set_cons_zero, List.set_cons_succ, i64_w, i32_w]
    rfl
  refine pure_ (i := 10) (N := some 60) (v := ?_) (a' := ?_) #[true, true, true, true, true, true, true, true, true, true, true, false, false, false, false, false, false, false, false, false, false, false, false, false, false, false, false, false, false, false] rfl rfl (by kernel_rfl) (fun _ _ _ h => h) (Or.inl ⟨by rfl, ?_⟩) ?_ ?_
  rotate_left
  · intro w'
    go_simp
    with_reducible rfl
  rotate_left
  · simp only [Act.put, List.setIfInBounds_toArray, List.set_cons_zero, List.set_cons_succ, i64_w, i32_w]
    rfl
  refine pure_ (i := 11) (N := some 61) (v := ?_) (a' := ?_) #[true, true, true, true, true, true, true, true, true, true, true, true, false, false, false, false, false, false, false, false, false, false, false, false, false, false, false, false, false, false] rfl rfl (by kernel_rfl) (fun _ _ _ h => h) (Or.inl ⟨by rfl, ?_⟩) ?_ ?_
  rotate_left
  · intro w'
    go_simp
    with_reducible rfl
  rotate_left
  · simp only [Act.put, List.setIfInBounds_toArray, List.set_cons_zero, List.set_cons_succ, i64_w, i32_w]
    rfl
  refine pure_ (i := 12) (N := some 62) (v := ?_) (a' := ?_) #[true, true, true, true, true, true, true, true, true, true, true, true, true, false, false, false, false, false, false, false, false, false, false, false, false, false, false, false, false, false] rfl rfl (by kernel_rfl) (fun _ _ _ h => h) (Or.inl ⟨by rfl, ?_⟩) ?_ ?_
  rotate_left
  · intro w'
    go_simp
    with_reducible rfl
  rotate_left
  · simp only [Act.put, List.setIfInBounds_toArray, List.set_cons_zero, List.set_cons_succ, i64_w, i32_w]
    rfl
  refine take_ (i := 13) (N := some 63) (v := ?_) (a' := ?_) #[true, true, true, true, true, true, true, true, true, true, true, true, true, true, false, false, false, false, false, false, false, false, false, false, false, false, false, false, false, false] rfl rfl (by kernel_rfl) (fun _ _ _ h => h) (Or.inl ⟨by rfl, ?_⟩) hHeld ?_ ?_
  rotate_left
  · rintro w' ⟨s0, s1, s2⟩
    go_simp
    with_reducible rfl
  rotate_left
  · simp only [Act.put, List.setIfInBounds_toArray, List.set_cons_zero, List.set_cons_succ, i64_w, i32_w]
    rfl
  refine one_ (i := 14) (N := some 64) #[true, true, true, true, true, true, true, true, true, true, true, true, true, true, true, false, false, false, false, false, false, false, false, false, false, false, false, false, false, false] rfl rfl (by kernel_rfl) (by decide) (fun K hK => ?_)
  refine goes_ Tryd.func11 (by kernel_rfl) rfl #[.agg #[.slice A n0 c]] (by rfl) rfl rfl (by (try simp only [List.map_toArray, List.map_cons, List.map_nil]); first | done | rfl) ?_
  refine (valid_n HD.out HSM.out HN.out D2.out.1 true HV1.out).mono ?_
  rintro e_ wi3 ⟨rfl, bi⟩
  refine ⟨_, rfl, ?_⟩
  have D3 := Aside0.mk (D2.out.below bi)
  refine hK.out _ _ D3.out.cells (fun hHeld => ?_)
  clear hK K bi D2
  refine norm_ (a' := ?_) ?_ ?_
  rotate_left
  · show Act.put _ (some 64) _ = _
    simp only [Act.put, List.setIfInBounds_toArray, List.set_cons_zero, List.set_cons_succ, i64_w, i32_w]
    rfl
  refine pure_ (i := 15) (N := some 65) (v := ?_) (a' := ?_) #[true, true, true, true, true, true, true, true, true, true, true, true, true, true, true, true, false, false, false, false, false, false, false, false, false, false, false, false, false, false] rfl rfl (by kernel_rfl) (fun _ _ _ h => h) (Or.inl ⟨by rfl, ?_⟩) ?_ ?_
  rotate_left
  · intro w'
    go_simp
    with_reducible rfl
  rotate_left
  · simp only [Act.put, List.setIfInBounds_toArray, List.set_cons_zero, List.set_cons_succ, i64_w, i32_w]
    rfl
  refine take_ (i := 16) (N := some 66) (v := ?_) (a' := ?_) #[true, true, true, true, true, true, true, true, true, true, true, true, true, true, true, true, true, false, false, false, false, false, false, false, false, false, false, false, false, false] rfl rfl (by kernel_rfl) (fun _ _ _ h => h) (Or.inl ⟨by rfl, ?_⟩) hHeld ?_ ?_
  rotate_left
  · rintro w' ⟨s0, s1, s2⟩
    go_simp
    with_reducible rfl
  rotate_left
  · simp only [Act.put, List.setIfInBounds_toArray, List.set_cons_zero, List.set_cons_succ, i64_w, i32_w]
    rfl
  refine one_ (i := 17) (N := some 67) #[true, true, true, true, true, true, true, true, true, true, true, true, true, true, true, true, true, true, false, false, false, false, false, false, false, false, false, false, false, false] rfl rfl (by kernel_rfl) (by decide) (fun K hK => ?_)
  refine goes_ Tryd.func11 (by kernel_rfl) rfl #[.agg #[.slice A1 m0 c1]] (by rfl) rfl rfl (by (try simp only [List.map_toArray, List.map_cons, List.map_nil]); first | done | rfl) ?_
  refine (valid_n H2.out HSN.out HM.out D3.out.2.1 false HV2.out).mono ?_
  rintro e_ wi4 ⟨rfl, bi⟩
  refine ⟨_, rfl, ?_⟩
  have D4 := Aside0.mk (D3.out.below bi)
  refine hK.out _ _ D4.out.cells (fun hHeld => ?_)
  clear hK K bi D3
  refine norm_ (a' := ?_) ?_ ?_
  rotate_left
  · show Act.put _ (some 67) _ = _
    simp only [Act.put, List.setIfInBounds_toArray, List.set_cons_zero, List.set_cons_succ, i64_w, i32_w]
    rfl
  refine pure_ (i := 18) (N := some 68) (v := ?_) (a' := ?_) #[true, true, true, true, true, true, true, true, true, true, true, true, true, true, true, true, true, true, true, false, false, false, false, false, false, false, false, false, false, false] rfl rfl (by kernel_rfl) (fun _ _ _ h => h) (Or.inl ⟨by rfl, ?_⟩) ?_ ?_
  rotate_left
  · intro w'
    go_simp
    with_reducible rfl
  rotate_left
  · simp only [Act.put, List.setIfInBounds_toArray, List.set_cons_zero, List.set_cons_succ, i64_w, i32_w]
    rfl
  refine pure_ (i := 19) (N := some 69) (v := ?_) (a' := ?_) #[true, true, true, true, true, true, true, true, true, true, true, true, true, true, true, true, true, true, true, true, false, false, false, false, false, false, false, false, false, false] rfl rfl (by kernel_rfl) (fun _ _ _ h => h) (Or.inl ⟨by rfl, ?_⟩) ?_ ?_
  rotate_left
  · intro w'
    go_simp
    with_reducible rfl
  rotate_left
  · simp only [Act.put, List.setIfInBounds_toArray, List.set_cons_zero, List.set_cons_succ, i64_w, i32_w]
    rfl
  refine pure_ (i := 20) (N := some 70) (v := undef) #[true, true, true, true, true, true, true, true, true, true, true, true, true, true, true, true, true, true, true, true, true, false, false, false, false, false, false, false, false, false] rfl rfl (by kernel_rfl) (fun _ _ _ h => h) (Or.inr ⟨by rfl, rfl⟩) rfl ?_
  refine norm_ (a' := ?_) ?_ ?_
  rotate_left
  · show Act.put _ (some 70) _ = _
    simp only [Act.put, List.setIfInBounds_toArray, List.set_cons_zero, List.set_cons_succ, i64_w, i32_w]
    rfl
  refine pure_ (i := 21) (N := some 71) (v := undef) #[true, true, true, true, true, true, true, true, true, true, true, true, true, true, true, true, true, true, true, true, true, true, false, false, false, false, false, false, false, false] rfl rfl (by kernel_rfl) (fun _ _ _ h => h) (Or.inr ⟨by rfl, rfl⟩) rfl ?_
  refine norm_ (a' := ?_) ?_ ?_
  rotate_left
  · show Act.put _ (some 71) _ = _
    simp only [Act.put, List.setIfInBounds_toArray, List.set_cons_zero, List.set_cons_succ, i64_w, i32_w]
    rfl
  refine pure_ (i := 22) (N := some 72) (v := undef) #[true, true, true, true, true, true, true, true, true, true, true, true, true, true, true, true, true, true, true, true, true, true, true, false, false, false, false, false, false, false] rfl rfl (by kernel_rfl) (fun _ _ _ h => h) (Or.inr ⟨by rfl, rfl⟩) rfl ?_
  refine norm_ (a' := ?_) ?_ ?_
  rotate_left
  · show Act.put _ (some 72) _ = _
    simp only [Act.put, List.setIfInBounds_toArray, List.set_cons_zero, List.set_cons_succ, i64_w, i32_w]
    rfl
  refine pure_ (i := 23) (N := some 73) (v := undef) #[true, true, true, true, true, true, true, true, true, true, true, true, true, true, true, true, true, true, true, true, true, true, true, true, false, false, false, false, false, false] rfl rfl (by kernel_rfl) (fun _ _ _ h => h) (Or.inr ⟨by rfl, rfl⟩) rfl ?_
  refine norm_ (a' := ?_) ?_ ?_
  rotate_left
  · show Act.put _ (some 73) _ = _
    simp only [Act.put, List.setIfInBounds_toArray, List.set_cons_zero, List.set_cons_succ, i64_w, i32_w]
    rfl
  refine pure_ (i := 24) (N := some 74) (v := undef) #[true, true, true, true, true, true, true, true, true, true, true, true, true, true, true, true, true, true, true, true, true, true, true, true, true, false, false, false, false, false] rfl rfl (by kernel_rfl) (fun _ _ _ h => h) (Or.inr ⟨by rfl, rfl⟩) rfl ?_
  refine norm_ (a' := ?_) ?_ ?_
  rotate_left
  · show Act.put _ (some 74) _ = _
    simp only [Act.put, List.setIfInBounds_toArray, List.set_cons_zero, List.set_cons_succ, i64_w, i32_w]
    rfl
  refine pure_ (i := 25) (N := some 75) (v := undef) #[true, true, true, true, true, true, true, true, true, true, true, true, true, true, true, true, true, true, true, true, true, true, true, true, true, true, false, false, false, false] rfl rfl (by kernel_rfl) (fun _ _ _ h => h) (Or.inr ⟨by rfl, rfl⟩) rfl ?_
  refine norm_ (a' := ?_) ?_ ?_
  rotate_left
  · show Act.put _ (some 75) _ = _
    simp only [Act.put, List.setIfInBounds_toArray, List.set_cons_zero, List.set_cons_succ, i64_w, i32_w]
    rfl
  refine pure_ (i := 26) (N := some 76) (v := undef) #[true, true, true, true, true, true, true, true, true, true, true, true, true, true, true, true, true, true, true, true, true, true, true, true, true, true, true, false, false, false] rfl rfl (by kernel_rfl) (fun _ _ _ h => h) (Or.inr ⟨by rfl, rfl⟩) rfl ?_
  refine norm_ (a' := ?_) ?_ ?_
  rotate_left
  · show Act.put _ (some 76) _ = _
    simp only [Act.put, List.setIfInBounds_toArray, List.set_cons_zero, List.set_cons_succ, i64_w, i32_w]
    rfl
  refine pure_ (i := 27) (N := some 77) (v := undef) #[true, true, true, true, true, true, true, true, true, true, true, true, true, true, true, true, true, true, true, true, true, true, true, true, true, true, true, true, false, false] rfl rfl (by kernel_rfl) (fun _ _ _ h => h) (Or.inr ⟨by rfl, rfl⟩) rfl ?_
  refine norm_ (a' := ?_) ?_ ?_
  rotate_left
  · show Act.put _ (some 77) _ = _
    simp only [Act.put, List.setIfInBounds_toArray, List.set_cons_zero, List.set_cons_succ, i64_w, i32_w]
    rfl
  refine pure_ (i := 28) (N := some 78) (v := ?_) (a' := ?_) #[true, true, true, true, true, true, true, true, true, true, true, true, true, true, true, true, true, true, true, true, true, true, true, true, true, true, true, true, true, false] rfl rfl (by kernel_rfl) (fun _ _ _ h => h) (Or.inl ⟨by rfl, ?_⟩) ?_ ?_
  rotate_left
  · intro w'
    go_simp
    with_reducible rfl
  rotate_left
  · simp only [Act.put, List.setIfInBounds_toArray, List.set_cons_zero, List.set_cons_succ, i64_w, i32_w]
    rfl
  refine pure_ (i := 29) (N := some 79) (v := ?_) (a' := ?_) #[true, true, true, true, true, true, true, true, true, true, true, true, true, true, true, true, true, true, true, true, true, true, true, true, true, true, true, true, true, true] rfl rfl (by kernel_rfl) (fun _ _ _ h => h) (Or.inl ⟨by rfl, ?_⟩) ?_ ?_
  rotate_left
  · intro w'
    go_simp
    with_reducible rfl
  rotate_left
  · simp only [Act.put, List.setIfInBounds_toArray, List.set_cons_zero, List.set_cons_succ, i64_w, i32_w]
    rfl
  refine done_ (by kernel_rfl) ?_
  have X7 := Aside0.mk D4.out.1
  have Y7 := Aside0.mk D4.out.2.1
  clear hHeld D4
  go_upto_region 11 with (first | (go_at_call 12; ((with_reducible refine (parse_in s z1 z2 z3 HZ.out _).mono ?_)); rintro e_ wz8 ⟨v12, rfl, hv_, hb_⟩; have X8 := Aside0.mk (X7.out.below hb_); have Y8 := Aside0.mk (Y7.out.below hb_); have HB8 := Aside0.mk hb_; have xc8 := X8.out.cell; have yc8 := Y8.out.cell; obtain ⟨A12, c12, e12⟩ := Kd.R_slice hv_; subst e12; have V12_ := Aside0.mk hv_; clear hv_; clear hb_) | ((with_reducible refine gate_dst (N := 12) rfl ?_); (try (refine gate_guard (by rfl) ?_; dsimp only)); refine box_event ?hg (N := 12) ?hd (cs := #[.slice none 0 0]) (t := 24) ?hr ?_; (case hd => rfl); (case hg => rfl); (case hr => first | (go_simp; done) | (go_simp; rfl)); intro b12 hg_b12 wb12 hbox hb; have BK_b12 := Aside0.mk hbox; have HB_b12 := Aside0.mk hb; have GE_b12 := Aside0.mk (Nat.le_of_eq hg_b12.symm); clear hbox hb hg_b12; have zb120 := (blk_cell BK_b12.out 0).trans (show _ = some (Value.slice none 0 0) from rfl); have fb120 := blk_frozen BK_b12.out 0))
  obtain ⟨g12, V12⟩ : ∃ g, Aside0 (Kd.R k42 42 wz8 g (fun _ => True) (.slice A12 z1.length c12) z1) := ⟨_, V12_⟩
  clear V12_
  refine at_world (F := fun w' => Bx W bx A n0 c w' ∧ w'.heap[b12]? = some (.cells #[.slice A12 z1.length c12] 24 (0, 0)) ∧ Kd.R k42 42 w' g12 (fun _ => True) (.slice A12 z1.length c12) z1) ⟨X8.out.below (below_set HB_b12.out GE_b12.out), blk_put BK_b12.out 0 _ rfl, Kd.R_set (Kd.R_below V12.out HB_b12.out) BK_b12.out (by decide) 0 _⟩ ?_
  clear X7 Y7 X8 Y8 xc8 yc8 HB8 V12 BK_b12 HB_b12 GE_b12 zb120 fb120
  rintro w9 ⟨p_, q_, r_⟩
  have X9 := Aside0.mk p_
  have U9 := Aside0.mk r_
  have u9 := (blk_cell q_ 0).trans (show _ = some (Value.slice A12 z1.length c12) from rfl)
  clear p_ q_ r_
  rcases HZG.out with ⟨k1, k2, k3⟩ | ⟨k1, k2, k3⟩
  · have hf1 : (z2 != 0) = true := by rw [bne_iff_ne]; exact k1
    have hle : decide (z3 ≤ (s.size : Int)) = true := decide_eq_true k3
    have hz0 : z1 = [] := k2
    subst hz0
    clear k1 k2 k3
    go_wp2
    go_ret
    exact ⟨rfl, X9.out.wb⟩
  · have hz2 : z2 = 0 := k1
    have hz3 : z3 = 0 := k3
    have HFZ := Aside0.mk (show Valid (z1.map toF) from k2)
    subst hz2
    subst hz3
    clear k1 k2 k3
    go_wp2_with (first | (go_at_call 11; ((with_reducible refine (valid_R U9.out HFZ.out).mono ?_)); rintro e_ wz10 ⟨rfl, hb_⟩; have X10 := Aside0.mk (X9.out.below hb_); clear hb_))
    go_ret
    exact ⟨rfl, X10.out.wb⟩
set_option maxHeartbeats 64000000 in
set_option maxRecDepth 100000 in
theorem domains_C (A : Option Addr) (c : Nat) (l0 : List S42) (A1 : Option Addr) (c1 : Nat) (k0 : List S42) (s : ByteArray) (W : World) (hd : DomIn W A c l0) (h2 : DomIn W A1 c1 k0) (ht : Tab W) (hF : fewB l0 = true) (hG : fewB k0 = true) (hS : s.size ≤ 3000) (hv1 : decide (Valid (l0.map toF)) = true) (hv2 : decide (Valid (k0.map toF)) = true) :
    Calls Tryd.prog 3 #[.agg #[.slice A l0.length c], .agg #[.slice A1 k0.length c1], .string s] W fun e w' => e = .returned (.bool true) ∧ Below W.heap.size W w' := by
  have HD := Aside0.mk hd
  have H2 := Aside0.mk h2
  have HT := Aside0.mk ht
  clear hd h2 ht
  obtain ⟨n0, hn0⟩ : ∃ n0, l0.length = n0 := ⟨_, rfl⟩
  obtain ⟨m0, hm0⟩ : ∃ m0, k0.length = m0 := ⟨_, rfl⟩
  rw [hn0, hm0]
  have HN := Aside0.mk hn0
  have HM := Aside0.mk hm0
  clear hn0 hm0
  have HBF := Aside0.mk hF
  have HBG := Aside0.mk hG
  have hbt : decide ((3000 : Int) < (s.size : Int)) = false := decide_eq_false (by omega)
  have hbt2 : decide (3000 < s.size) = false := decide_eq_false (by omega)
  have HV1 := Aside0.mk hv1
  have HV2 := Aside0.mk hv2
  clear hv2
  clear hF hG hv1
  go_enter Tryd.func3, Tryd.ntmps3
  go_upto_region 1 with (first | ((with_reducible refine gate_dst (N := 3) rfl ?_); (try (refine gate_guard (by rfl) ?_; dsimp only)); refine box_event ?hg (N := 3) ?hd (cs := #[.slice A n0 c]) (t := 24) ?hr ?_; (case hd => rfl); (case hg => rfl); (case hr => first | (go_simp; done) | (go_simp; rfl)); intro bx hg_bx wbx hbox hb; have BK_bx := Aside0.mk hbox; have HB_bx := Aside0.mk hb; have GE_bx := Aside0.mk (Nat.le_of_eq hg_bx.symm); clear hbox hb hg_bx) | ((with_reducible refine gate_dst (N := 4) rfl ?_); (try (refine gate_guard (by rfl) ?_; dsimp only)); refine box_event ?hg (N := 4) ?hd (cs := #[.slice A1 m0 c1]) (t := 24) ?hr ?_; (case hd => rfl); (case hg => rfl); (case hr => first | (go_simp; done) | (go_simp; rfl)); intro bz hg_bz wbz hbox hb; have BK_bz := Aside0.mk hbox; have HB_bz := Aside0.mk hb; have GE_bz := Aside0.mk (Nat.le_of_eq hg_bz.symm); clear hbox hb hg_bz))
  refine at_world (F := fun w' => Bx W bx A n0 c w' ∧ Bx W bz A1 m0 c1 w') ⟨⟨blk_below BK_bx.out HB_bz.out, below_step HB_bx.out HB_bz.out⟩, ⟨BK_bz.out, below_step HB_bx.out HB_bz.out⟩⟩ ?_
  clear BK_bx HB_bx GE_bx BK_bz HB_bz GE_bz
  rintro w0 ⟨p_, q_⟩
  have X0 := Aside0.mk p_
  have Y0 := Aside0.mk q_
  clear p_ q_
  have xc0 := X0.out.cell
  have yc0 := Y0.out.cell
  go_upto_region 2 with (first | (go_at_call 8; ((with_reducible refine (head_in HT.out X0.out.wb).mono ?_)); rintro e_ wz1 ⟨rfl, hb_⟩; have X1 := Aside0.mk (X0.out.below hb_); have Y1 := Aside0.mk (Y0.out.below hb_); have HB1 := Aside0.mk hb_; have xc1 := X1.out.cell; have yc1 := Y1.out.cell; clear hb_))
  have H3K := Aside0.mk (show s.size ≤ 3000 by have := of_decide_eq_false hbt2; omega)
  have HSM := Aside0.mk (few_small HBF.out).1
  have HSN := Aside0.mk (few_small HBG.out).1
  obtain ⟨sa, hsa⟩ : ∃ sa, bs (text (l0.map toF)) = sa := ⟨_, rfl⟩
  have HSA := Aside0.mk hsa
  clear hsa
  go_upto_region 4 with (first | (go_at_call 9; ((with_reducible refine (few_n HD.out HN.out X1.out true HBF.out).mono ?_)); rintro e_ wz2 ⟨rfl, hb_⟩; have X2 := Aside0.mk (X1.out.below hb_); have Y2 := Aside0.mk (Y1.out.below hb_); have HB2 := Aside0.mk hb_; have xc2 := X2.out.cell; have yc2 := Y2.out.cell; clear hb_) | (go_at_call 9; ((with_reducible refine (few_n H2.out HM.out Y2.out true HBG.out).mono ?_)); rintro e_ wz3 ⟨rfl, hb_⟩; have X3 := Aside0.mk (X2.out.below hb_); have Y3 := Aside0.mk (Y2.out.below hb_); have HB3 := Aside0.mk hb_; have xc3 := X3.out.cell; have yc3 := Y3.out.cell; clear hb_))
  refine at_world (F := fun w' => Bx W bx A n0 c w' ∧ Bx W bz A1 m0 c1 w') ⟨X3.out, Y3.out⟩ ?_
  clear X0 Y0 xc0 yc0 X1 Y1 xc1 yc1 X2 Y2 xc2 yc2 X3 Y3 xc3 yc3 HB1 HB2 HB3
  rintro w3 ⟨p_, q_⟩
  have X3 := Aside0.mk p_
  have Y3 := Aside0.mk q_
  clear p_ q_
  have xc3 := X3.out.cell
  have yc3 := Y3.out.cell
  go_upto_region 5 with (first | (go_at_call 10; ((with_reducible refine (text_n HD.out HSM.out HT.out HN.out X3.out sa HSA.out).mono ?_)); rintro e_ wz4 ⟨rfl, hb_⟩; have X4 := Aside0.mk (X3.out.below hb_); have Y4 := Aside0.mk (Y3.out.below hb_); have HB4 := Aside0.mk hb_; have xc4 := X4.out.cell; have yc4 := Y4.out.cell; clear hb_))
  obtain ⟨⟨y1, y2, y3⟩, hy⟩ : ∃ r, parseO sa = r := ⟨_, rfl⟩
  have HY := Aside0.mk hy
  clear hy
  obtain ⟨⟨z1, z2, z3⟩, hz⟩ : ∃ r, parseO s = r := ⟨_, rfl⟩
  have HZ := Aside0.mk hz
  have HZG := Aside0.mk (show DomGood s.size (z1, z2, z3) by rw [← hz]; exact parseO_ok s H3K.out)
  clear hz
  have HVL := Aside0.mk (of_decide_eq_true HV1.out)
  have hyy := HY.out
  rw [← HSA.out, parse_back HVL.out] at hyy
  injection hyy with e1 hyy
  injection hyy with e2 e3
  have HY1 := Aside0.mk (show y1.map toF = l0.map toF by rw [← e1, toF_ofF])
  clear e1
  subst e2; subst e3
  obtain ⟨bz_, hbz⟩ : ∃ bz_, decide (n0 = 0) = bz_ := ⟨_, rfl⟩
  have hz1 : ((n0 : Int) == 0) = bz_ := by rw [← hbz, Bool.eq_iff_iff, beq_iff_eq, decide_eq_true_eq]; omega
  have hz2 : (n0 == 0) = bz_ := by rw [← hbz, Bool.eq_iff_iff, beq_iff_eq, decide_eq_true_eq]
  have hz3 : decide ((n0 : Int) = 0) = bz_ := by rw [← hbz]; exact decide_eq_decide.2 (by omega)
  have HTN := Aside0.mk (show sa.toList = [] ↔ n0 = 0 by
    rw [← HSA.out, bs_toList, text_none, ← HN.out]
    have := HVL.out
    simp [this])
  have hs1 : decide (sa.toList = []) = bz_ := by rw [← hbz]; exact decide_eq_decide.2 HTN.out
  have hs2 : (sa.toList == []) = bz_ := by rw [← hs1, Bool.eq_iff_iff, beq_iff_eq, decide_eq_true_eq]
  have hs3 : sa.toList.isEmpty = bz_ := by rw [← hs1, Bool.eq_iff_iff, List.isEmpty_iff, decide_eq_true_eq]
  go_upto_region 7 with (first | (go_at_call 11; ((with_reducible refine (valid_n HD.out HSM.out HN.out X4.out true HV1.out).mono ?_)); rintro e_ wz5 ⟨rfl, hb_⟩; have X5 := Aside0.mk (X4.out.below hb_); have Y5 := Aside0.mk (Y4.out.below hb_); have HB5 := Aside0.mk hb_; have xc5 := X5.out.cell; have yc5 := Y5.out.cell; clear hb_))
  clear hz1 hz2 hz3 hs1 hs2 hs3
  go_upto_region 8 with (first | (go_at_call 12; ((with_reducible refine (parse_in sa y1 0 0 HY.out _).mono ?_)); rintro e_ wz6 ⟨v9, rfl, hv_, hb_⟩; have X6 := Aside0.mk (X5.out.below hb_); have Y6 := Aside0.mk (Y5.out.below hb_); have HB6 := Aside0.mk hb_; have xc6 := X6.out.cell; have yc6 := Y6.out.cell; obtain ⟨A9, c9, e9⟩ := Kd.R_slice hv_; subst e9; have V9_ := Aside0.mk hv_; clear hv_; clear hb_) | ((with_reducible refine gate_dst (N := 9) rfl ?_); (try (refine gate_guard (by rfl) ?_; dsimp only)); refine box_event ?hg (N := 9) ?hd (cs := #[.slice none 0 0]) (t := 24) ?hr ?_; (case hd => rfl); (case hg => rfl); (case hr => first | (go_simp; done) | (go_simp; rfl)); intro b9 hg_b9 wb9 hbox hb; have BK_b9 := Aside0.mk hbox; have HB_b9 := Aside0.mk hb; have GE_b9 := Aside0.mk (Nat.le_of_eq hg_b9.symm); clear hbox hb hg_b9; have zb90 := (blk_cell BK_b9.out 0).trans (show _ = some (Value.slice none 0 0) from rfl); have fb90 := blk_frozen BK_b9.out 0))
  obtain ⟨g9, V9⟩ : ∃ g, Aside0 (Kd.R k42 42 wz6 g (fun _ => True) (.slice A9 y1.length c9) y1) := ⟨_, V9_⟩
  clear V9_
  refine at_world (F := fun w' => DmW W bx bz b9 A n0 c A1 m0 c1 A9 c9 g9 y1 w') ⟨X6.out.below (below_set HB_b9.out GE_b9.out), Y6.out.below (below_set HB_b9.out GE_b9.out), blk_put BK_b9.out 0 _ rfl, Kd.R_set (Kd.R_below V9.out HB_b9.out) BK_b9.out (by decide) 0 _⟩ ?_
  clear X3 Y3 xc3 yc3 X4 Y4 xc4 yc4 X5 Y5 xc5 yc5 X6 Y6 xc6 yc6 HB4 HB5 HB6 V9 BK_b9 HB_b9 GE_b9 zb90 fb90
  intro w8 p_
  have D8 := Aside0.mk p_
  clear p_
  obtain ⟨q0, q1, q2⟩ := D8.out.cells
  refine start_ (n := 30) (S := fun w' => w'.cell? ⟨bx, 0, none⟩ = some (.slice A n0 c) ∧ w'.cell? ⟨bz, 0, none⟩ = some (.slice A1 m0 c1) ∧ w'.cell? ⟨b9, 0, none⟩ = some (.slice A9 y1.length c9)) (ds := []) #[false, false, false, false, false, false, false, false, false, false, false, false, false, false, false, false, false, false, false, false, false, false, false, false, false, false, false, false, false, false] (by kernel_rfl) rfl rfl ⟨q0, q1, q2⟩ (fun hHeld => ?_)
  obtain ⟨wd, hwd⟩ : ∃ wd, w8.drew = wd := ⟨_, rfl⟩
  have D0 := Aside0.mk (show DmW W bx bz b9 A n0 c A1 m0 c1 A9 c9 g9 y1 wd by rw [← hwd]; exact D8.out.below (below_drew1 (Below.refl _ _)))
  rw [hwd] at hHeld ⊢
  clear hwd q0 q1 q2 D8
  refine take_ (i := 0) (N := some 50) (v := ?_) (a' := ?_) #[true, false, false, false, false, false, false, false, false, false, false, false, false, false, false, false, false, false, false, false, false, false, false, false, false, false, false, false, false, false] rfl rfl (by kernel_rfl) (fun _ _ _ h => h) (Or.inl ⟨by rfl, ?_⟩) hHeld ?_ ?_
  rotate_left
  · rintro w' ⟨s0, s1, s2⟩
    go_simp
    with_reducible rfl
  rotate_left
  · simp only [Act.put, List.setIfInBounds_toArray, List.set_cons_zero, List.set_cons_succ, i64_w, i32_w]
    rfl
  refine one_ (i := 1) (N := some 51) #[true, true, false, false, false, false, false, false, false, false, false, false, false, false, false, false, false, false, false, false, false, false, false, false, false, false, false, false, false, false] rfl rfl (by kernel_rfl) (by decide) (fun K hK => ?_)
  refine goes_ Tryd.func11 (by kernel_rfl) rfl #[.agg #[.slice A n0 c]] (by rfl) rfl rfl (by (try simp only [List.map_toArray, List.map_cons, List.map_nil]); first | done | rfl) ?_
  refine (valid_n HD.out HSM.out HN.out D0.out.1 true HV1.out).mono ?_
  rintro e_ wi1 ⟨rfl, bi⟩
  refine ⟨_, rfl, ?_⟩
  have D1 := Aside0.mk (D0.out.below bi)
  refine hK.out _ _ D1.out.cells (fun hHeld => ?_)
  clear hK K bi D0
  refine norm_ (a' := ?_) ?_ ?_
  rotate_left
  · show Act.put _ (some 51) _ = _
    simp only [Act.put, List.setIfInBounds_toArray, List.set_cons_zero, List.set_cons_succ, i64_w, i32_w]
    rfl
  refine pure_ (i := 2) (N := some 52) (v := ?_) (a' := ?_) #[true, true, true, false, false, false, false, false, false, false, false, false, false, false, false, false, false, false, false, false, false, false, false, false, false, false, false, false, false, false] rfl rfl (by kernel_rfl) (fun _ _ _ h => h) (Or.inl ⟨by rfl, ?_⟩) ?_ ?_
  rotate_left
  · intro w'
    go_simp
    with_reducible rfl
  rotate_left
  · simp only [Act.put, List.setIfInBounds_toArray, List.set_cons_zero, List.set_cons_succ, i64_w, i32_w]
    rfl
  refine pure_ (i := 3) (N := some 53) (v := ?_) (a' := ?_) #[true, true, true, true, false, false, false, false, false, false, false, false, false, false, false, false, false, false, false, false, false, false, false, false, false, false, false, false, false, false] rfl rfl (by kernel_rfl) (fun _ _ _ h => h) (Or.inl ⟨by rfl, ?_⟩) ?_ ?_
  rotate_left
  · intro w'
    go_simp
    with_reducible rfl
  rotate_left
  · simp only [Act.put, List.setIfInBounds_toArray, List.set_cons_zero, List.set_cons_succ, i64_w, i32_w]
    rfl
  refine pure_ (i := 4) (N := some 54) (v := ?_) (a' := ?_) #[true, true, true, true, true, false, false, false, false, false, false, false, false, false, false, false, false, false, false, false, false, false, false, false, false, false, false, false, false, false] rfl rfl (by kernel_rfl) (fun _ _ _ h => h) (Or.inl ⟨by rfl, ?_⟩) ?_ ?_
  rotate_left
  · intro w'
    go_simp
    with_reducible rfl
  rotate_left
  · simp only [Act.put, List.setIfInBounds_toArray, List.set_cons_zero, List.set_cons_succ, i64_w, i32_w]
    rfl
  refine pure_ (i := 5) (N := some 55) (v := ?_) (a' := ?_) #[true, true, true, true, true, true, false, false, false, false, false, false, false, false, false, false, false, false, false, false, false, false, false, false, false, false, false, false, false, false] rfl rfl (by kernel_rfl) (fun _ _ _ h => h) (Or.inl ⟨by rfl, ?_⟩) ?_ ?_
  rotate_left
  · intro w'
    go_simp
    with_reducible rfl
  rotate_left
  · simp only [Act.put, List.setIfInBounds_toArray, List.set_cons_zero, List.set_cons_succ, i64_w, i32_w]
    rfl
  refine take_ (i := 6) (N := some 56) (v := ?_) (a' := ?_) #[true, true, true, true, true, true, true, false, false, false, false, false, false, false, false, false, false, false, false, false, false, false, false, false, false, false, false, false, false, false] rfl rfl (by kernel_rfl) (fun _ _ _ h => h) (Or.inl ⟨by rfl, ?_⟩) hHeld ?_ ?_
  rotate_left
  · rintro w' ⟨s0, s1, s2⟩
    go_simp
    with_reducible rfl
  rotate_left
  · simp only [Act.put, List.setIfInBounds_toArray, List.set_cons_zero, List.set_cons_succ, i64_w, i32_w]
    rfl
  refine take_ (i := 7) (N := some 57) (v := ?_) (a' := ?_) #[true, true, true, true, true, true, true, true, false, false, false, false, false, false, false, false, false, false, false, false, false, false, false, false, false, false, false, false, false, false] rfl rfl (by kernel_rfl) (fun _ _ _ h => h) (Or.inl ⟨by rfl, ?_⟩) hHeld ?_ ?_
  rotate_left
  · rintro w' ⟨s0, s1, s2⟩
    go_simp
    with_reducible rfl
  rotate_left
  · simp only [Act.put, List.setIfInBounds_toArray, List.set_cons_zero, List.set_cons_succ, i64_w, i32_w]
    rfl
  refine one_ (i := 8) (N := some 58) #[true, true, true, true, true, true, true, true, true, false, false, false, false, false, false, false, false, false, false, false, false, false, false, false, false, false, false, false, false, false] rfl rfl (by kernel_rfl) (by decide) (fun K hK => ?_)
  refine goes_ Tryd.func13 (by kernel_rfl) rfl #[.agg #[.slice A9 y1.length c9], .agg #[.slice A n0 c]] (by rfl) rfl rfl (by (try simp only [List.map_toArray, List.map_cons, List.map_nil]); first | done | rfl) ?_
  refine (same_R HD.out HN.out D1.out.1 D1.out.2.2.2 HY1.out HSM.out).mono ?_
  rintro e_ wi2 ⟨rfl, bi⟩
  refine ⟨_, rfl, ?_⟩
  have D2 := Aside0.mk (D1.out.below bi)
  refine hK.out _ _ D2.out.cells (fun hHeld => ?_)
  clear hK K bi D1
  refine norm_ (a' := ?_) ?_ ?_
  rotate_left
  · show Act.put _ (some 58) _ = _
    simp only [Act.put, List.setIfInBounds_toArray, List.set_cons_zero, List.set_cons_succ, i64_w, i32_w]
    rfl
  refine pure_ (i := 9) (N := some 59) (v := ?_) (a' := ?_) #[true, true, true, true, true, true, true, true, true, true, false, false, false, false, false, false, false, false, false, false, false, false, false, false, false, false, false, false, false, false] rfl rfl (by kernel_rfl) (fun _ _ _ h => h) (Or.inl ⟨by rfl, ?_⟩) ?_ ?_
  rotate_left
  · intro w'
    go_simp
    with_reducible rfl
  rotate_left
  · simp only [Act.put, List.setIfInBounds_toArray, List.set_cons_zero, List.set_cons_succ, i64_w, i32_w]
    rfl
  refine pure_ (i := 10) (N := some 60) (v := ?_) (a' := ?_) #[true, true, true, true, true, true, true, true, true, true, true, false, false, false, false, false, false, false, false, false, false, false, false, false, false, false, false, false, false, false] rfl rfl (by kernel_rfl) (fun _ _ _ h => h) (Or.inl ⟨by rfl, ?_⟩) ?_ ?_
  rotate_left
  · intro w'
    go_simp
    with_reducible rfl
  rotate_left
  · simp only [Act.put, List.setIfInBounds_toArray, List.set_cons_zero, List.set_cons_succ, i64_w, i32_w]
    rfl
  refine pure_ (i := 11) (N := some 61) (v := ?_) (a' := ?_) #[true, true, true, true, true, true, true, true, true, true, true, true, false, false, false, false, false, false, false, false, false, false, false, false, false, false, false, false, false, false] rfl rfl (by kernel_rfl) (fun _ _ _ h => h) (Or.inl ⟨by rfl, ?_⟩) ?_ ?_
  rotate_left
  · intro w'
    go_simp
    with_reducible rfl
  rotate_left
  · simp only [Act.put, List.setIfInBounds_toArray, List.set_cons_zero, List.set_cons_succ, i64_w, i32_w]
    rfl
  refine pure_ (i := 12) (N := some 62) (v := ?_) (a' := ?_) #[true, true, true, true, true, true, true, true, true, true, true, true, true, false, false, false, false, false, false, false, false, false, false, false, false, false, false, false, false, false] rfl rfl (by kernel_rfl) (fun _ _ _ h => h) (Or.inl ⟨by rfl, ?_⟩) ?_ ?_
  rotate_left
  · intro w'
    go_simp
    with_reducible rfl
  rotate_left
  · simp only [Act.put, List.setIfInBounds_toArray, List.set_cons_zero, List.set_cons_succ, i64_w, i32_w]
    rfl
  refine take_ (i := 13) (N := some 63) (v := ?_) (a' := ?_) #[true, true, true, true, true, true, true, true, true, true, true, true, true, true, false, false, false, false, false, false, false, false, false, false, false, false, false, false, false, false] rfl rfl (by kernel_rfl) (fun _ _ _ h => h) (Or.inl ⟨by rfl, ?_⟩) hHeld ?_ ?_
  rotate_left
  · rintro w' ⟨s0, s1, s2⟩
    go_simp
    with_reducible rfl
  rotate_left
  · simp only [Act.put, List.setIfInBounds_toArray, List.set_cons_zero, List.set_cons_succ, i64_w, i32_w]
    rfl
  refine one_ (i := 14) (N := some 64) #[true, true, true, true, true, true, true, true, true, true, true, true, true, true, true, false, false, false, false, false, false, false, false, false, false, false, false, false, false, false] rfl rfl (by kernel_rfl) (by decide) (fun K hK => ?_)
  refine goes_ Tryd.func11 (by kernel_rfl) rfl #[.agg #[.slice A n0 c]] (by rfl) rfl rfl (by (try simp only [List.map_toArray, List.map_cons, List.map_nil]); first | done | rfl) ?_
  refine (valid_n HD.out HSM.out HN.out D2.out.1 true HV1.out).mono ?_
  rintro e_ wi3 ⟨rfl, bi⟩
  refine ⟨_, rfl, ?_⟩
  have D3 := Aside0.mk (D2.out.below bi)
  refine hK.out _ _ D3.out.cells (fun hHeld => ?_)
  clear hK K bi D2
  refine norm_ (a' := ?_) ?_ ?_
  rotate_left
  · show Act.put _ (some 64) _ = _
    simp only [Act.put, List.setIfInBounds_toArray, List.set_cons_zero, List.set_cons_succ, i64_w, i32_w]
    rfl
  refine pure_ (i := 15) (N := some 65) (v := ?_) (a' := ?_) #[true, true, true, true, true, true, true, true, true, true, true, true, true, true, true, true, false, false, false, false, false, false, false, false, false, false, false, false, false, false] rfl rfl (by kernel_rfl) (fun _ _ _ h => h) (Or.inl ⟨by rfl, ?_⟩) ?_ ?_
  rotate_left
  · intro w'
    go_simp
    with_reducible rfl
  rotate_left
  · simp only [Act.put, List.setIfInBounds_toArray, List.set_cons_zero, List.set_cons_succ, i64_w, i32_w]
    rfl
  refine take_ (i := 16) (N := some 66) (v := ?_) (a' := ?_) #[true, true, true, true, true, true, true, true, true, true, true, true, true, true, true, true, true, false, false, false, false, false, false, false, false, false, false, false, false, false] rfl rfl (by kernel_rfl) (fun _ _ _ h => h) (Or.inl ⟨by rfl, ?_⟩) hHeld ?_ ?_
  rotate_left
  · rintro w' ⟨s0, s1, s2⟩
    go_simp
    with_reducible rfl
  rotate_left
  · simp only [Act.put, List.setIfInBounds_toArray, List.set_cons_zero, List.set_cons_succ, i64_w, i32_w]
    rfl
  have HVK := Aside0.mk (of_decide_eq_true HV2.out)
  obtain ⟨sb, hsb⟩ : ∃ sb, bs (text (k0.map toF)) = sb := ⟨_, rfl⟩
  have HSB := Aside0.mk hsb
  clear hsb
  obtain ⟨be, hbe⟩ : ∃ be, decide (l0.map toF = k0.map toF) = be := ⟨_, rfl⟩
  have HBE := Aside0.mk hbe
  have hq2 : decide (sa.toList = sb.toList) = be := by
    rw [← HSA.out, ← HSB.out, bs_toList, bs_toList, ← hbe]
    exact decide_eq_decide.2 ⟨fun h => text_inj HVL.out HVK.out h, fun h => by rw [h]⟩
  have hq1 := str_eq hq2
  clear hbe
  refine one_ (i := 17) (N := some 67) #[true, true, true, true, true, true, true, true, true, true, true, true, true, true, true, true, true, true, false, false, false, false, false, false, false, false, false, false, false, false] rfl rfl (by kernel_rfl) (by decide) (fun K hK => ?_)
  refine goes_ Tryd.func11 (by kernel_rfl) rfl #[.agg #[.slice A1 m0 c1]] (by rfl) rfl rfl (by (try simp only [List.map_toArray, List.map_cons, List.map_nil]); first | done | rfl) ?_
  refine (valid_n H2.out HSN.out HM.out D3.out.2.1 true HV2.out).mono ?_
  rintro e_ wi4 ⟨rfl, bi⟩
  refine ⟨_, rfl, ?_⟩
  have D4 := Aside0.mk (D3.out.below bi)
  refine hK.out _ _ D4.out.cells (fun hHeld => ?_)
  clear hK K bi D3
  refine norm_ (a' := ?_) ?_ ?_
  rotate_left
  · show Act.put _ (some 67) _ = _
    simp only [Act.put, List.setIfInBounds_toArray, List.set_cons_zero, List.set_cons_succ, i64_w, i32_w]
    rfl
  refine pure_ (i := 18) (N := some 68) (v := ?_) (a' := ?_) #[true, true, true, true, true, true, true, true, true, true, true, true, true, true, true, true, true, true, true, false, false, false, false, false, false, false, false, false, false, false] rfl rfl (by kernel_rfl) (fun _ _ _ h => h) (Or.inl ⟨by rfl, ?_⟩) ?_ ?_
  rotate_left
  · intro w'
    go_simp
    with_reducible rfl
  rotate_left
  · simp only [Act.put, List.setIfInBounds_toArray, List.set_cons_zero, List.set_cons_succ, i64_w, i32_w]
    rfl
  refine pure_ (i := 19) (N := some 69) (v := ?_) (a' := ?_) #[true, true, true, true, true, true, true, true, true, true, true, true, true, true, true, true, true, true, true, true, false, false, false, false, false, false, false, false, false, false] rfl rfl (by kernel_rfl) (fun _ _ _ h => h) (Or.inl ⟨by rfl, ?_⟩) ?_ ?_
  rotate_left
  · intro w'
    go_simp
    with_reducible rfl
  rotate_left
  · simp only [Act.put, List.setIfInBounds_toArray, List.set_cons_zero, List.set_cons_succ, i64_w, i32_w]
    rfl
  refine pure_ (i := 20) (N := some 70) (v := ?_) (a' := ?_) #[true, true, true, true, true, true, true, true, true, true, true, true, true, true, true, true, true, true, true, true, true, false, false, false, false, false, false, false, false, false] rfl rfl (by kernel_rfl) (fun _ _ _ h => h) (Or.inl ⟨by rfl, ?_⟩) ?_ ?_
  rotate_left
  · intro w'
    go_simp
    with_reducible rfl
  rotate_left
  · simp only [Act.put, List.setIfInBounds_toArray, List.set_cons_zero, List.set_cons_succ, i64_w, i32_w]
    rfl
  refine take_ (i := 21) (N := some 71) (v := ?_) (a' := ?_) #[true, true, true, true, true, true, true, true, true, true, true, true, true, true, true, true, true, true, true, true, true, true, false, false, false, false, false, false, false, false] rfl rfl (by kernel_rfl) (fun _ _ _ h => h) (Or.inl ⟨by rfl, ?_⟩) hHeld ?_ ?_
  rotate_left
  · rintro w' ⟨s0, s1, s2⟩
    go_simp
    with_reducible rfl
  rotate_left
  · simp only [Act.put, List.setIfInBounds_toArray, List.set_cons_zero, List.set_cons_succ, i64_w, i32_w]
    rfl
  refine take_ (i := 24) (N := some 74) (v := ?_) (a' := ?_) #[true, true, true, true, true, true, true, true, true, true, true, true, true, true, true, true, true, true, true, true, true, true, false, false, true, false, false, false, false, false] rfl rfl (by kernel_rfl) (fun _ _ _ h => h) (Or.inl ⟨by rfl, ?_⟩) hHeld ?_ ?_
  rotate_left
  · rintro w' ⟨s0, s1, s2⟩
    go_simp
    with_reducible rfl
  rotate_left
  · simp only [Act.put, List.setIfInBounds_toArray, List.set_cons_zero, List.set_cons_succ, i64_w, i32_w]
    rfl
  refine take_ (i := 25) (N := some 75) (v := ?_) (a' := ?_) #[true, true, true, true, true, true, true, true, true, true, true, true, true, true, true, true, true, true, true, true, true, true, false, false, true, true, false, false, false, false] rfl rfl (by kernel_rfl) (fun _ _ _ h => h) (Or.inl ⟨by rfl, ?_⟩) hHeld ?_ ?_
  rotate_left
  · rintro w' ⟨s0, s1, s2⟩
    go_simp
    with_reducible rfl
  rotate_left
  · simp only [Act.put, List.setIfInBounds_toArray, List.set_cons_zero, List.set_cons_succ, i64_w, i32_w]
    rfl
  refine one_ (i := 22) (N := some 72) #[true, true, true, true, true, true, true, true, true, true, true, true, true, true, true, true, true, true, true, true, true, true, true, false, true, true, false, false, false, false] rfl rfl (by kernel_rfl) (by decide) (fun K hK => ?_)
  refine goes_ Tryd.func10 (by kernel_rfl) rfl #[.agg #[.slice A1 m0 c1]] (by rfl) rfl rfl (by (try simp only [List.map_toArray, List.map_cons, List.map_nil]); first | done | rfl) ?_
  refine (text_n H2.out HSN.out HT.out HM.out D4.out.2.1 sb HSB.out).mono ?_
  rintro e_ wi5 ⟨rfl, bi⟩
  refine ⟨_, rfl, ?_⟩
  have D5 := Aside0.mk (D4.out.below bi)
  refine hK.out _ _ D5.out.cells (fun hHeld => ?_)
  clear hK K bi D4
  refine norm_ (a' := ?_) ?_ ?_
  rotate_left
  · show Act.put _ (some 72) _ = _
    simp only [Act.put, List.setIfInBounds_toArray, List.set_cons_zero, List.set_cons_succ, i64_w, i32_w]
    rfl
  refine pure_ (i := 23) (N := some 73) (v := ?_) (a' := ?_) #[true, true, true, true, true, true, true, true, true, true, true, true, true, true, true, true, true, true, true, true, true, true, true, true, true, true, false, false, false, false] rfl rfl (by kernel_rfl) (fun _ _ _ h => h) (Or.inl ⟨by rfl, ?_⟩) ?_ ?_
  rotate_left
  · intro w'
    go_simp
    with_reducible rfl
  rotate_left
  · simp only [Act.put, List.setIfInBounds_toArray, List.set_cons_zero, List.set_cons_succ, i64_w, i32_w]
    rfl
  refine one_ (i := 26) (N := some 76) #[true, true, true, true, true, true, true, true, true, true, true, true, true, true, true, true, true, true, true, true, true, true, true, true, true, true, true, false, false, false] rfl rfl (by kernel_rfl) (by decide) (fun K hK => ?_)
  refine goes_ Tryd.func13 (by kernel_rfl) rfl #[.agg #[.slice A n0 c], .agg #[.slice A1 m0 c1]] (by rfl) rfl rfl (by (try simp only [List.map_toArray, List.map_cons, List.map_nil]); first | done | rfl) ?_
  refine (same_n HD.out HN.out H2.out HM.out D5.out.1 D5.out.2.1 HSM.out be HBE.out).mono ?_
  rintro e_ wi6 ⟨rfl, bi⟩
  refine ⟨_, rfl, ?_⟩
  have D6 := Aside0.mk (D5.out.below bi)
  refine hK.out _ _ D6.out.cells (fun hHeld => ?_)
  clear hK K bi D5
  refine norm_ (a' := ?_) ?_ ?_
  rotate_left
  · show Act.put _ (some 76) _ = _
    simp only [Act.put, List.setIfInBounds_toArray, List.set_cons_zero, List.set_cons_succ, i64_w, i32_w]
    rfl
  refine pure_ (i := 27) (N := some 77) (v := ?_) (a' := ?_) #[true, true, true, true, true, true, true, true, true, true, true, true, true, true, true, true, true, true, true, true, true, true, true, true, true, true, true, true, false, false] rfl rfl (by kernel_rfl) (fun _ _ _ h => h) (Or.inl ⟨by rfl, ?_⟩) ?_ ?_
  rotate_left
  · intro w'
    go_simp
    with_reducible rfl
  rotate_left
  · simp only [Act.put, List.setIfInBounds_toArray, List.set_cons_zero, List.set_cons_succ, i64_w, i32_w]
    rfl
  refine pure_ (i := 28) (N := some 78) (v := ?_) (a' := ?_) #[true, true, true, true, true, true, true, true, true, true, true, true, true, true, true, true, true, true, true, true, true, true, true, true, true, true, true, true, true, false] rfl rfl (by kernel_rfl) (fun _ _ _ h => h) (Or.inl ⟨by rfl, ?_⟩) ?_ ?_
  rotate_left
  · intro w'
    go_simp
    with_reducible rfl
  rotate_left
  · simp only [Act.put, List.setIfInBounds_toArray, List.set_cons_zero, List.set_cons_succ, i64_w, i32_w]
    rfl
  refine pure_ (i := 29) (N := some 79) (v := ?_) (a' := ?_) #[true, true, true, true, true, true, true, true, true, true, true, true, true, true, true, true, true, true, true, true, true, true, true, true, true, true, true, true, true, true] rfl rfl (by kernel_rfl) (fun _ _ _ h => h) (Or.inl ⟨by rfl, ?_⟩) ?_ ?_
  rotate_left
  · intro w'
    go_simp
    with_reducible rfl
  rotate_left
  · simp only [Act.put, List.setIfInBounds_toArray, List.set_cons_zero, List.set_cons_succ, i64_w, i32_w]
    rfl
  clear hq1 hq2
  refine done_ (by kernel_rfl) ?_
  have X7 := Aside0.mk D6.out.1
  have Y7 := Aside0.mk D6.out.2.1
  clear hHeld D6
  go_upto_region 11 with (first | (go_at_call 12; ((with_reducible refine (parse_in s z1 z2 z3 HZ.out _).mono ?_)); rintro e_ wz8 ⟨v12, rfl, hv_, hb_⟩; have X8 := Aside0.mk (X7.out.below hb_); have Y8 := Aside0.mk (Y7.out.below hb_); have HB8 := Aside0.mk hb_; have xc8 := X8.out.cell; have yc8 := Y8.out.cell; obtain ⟨A12, c12, e12⟩ := Kd.R_slice hv_; subst e12; have V12_ := Aside0.mk hv_; clear hv_; clear hb_) | ((with_reducible refine gate_dst (N := 12) rfl ?_); (try (refine gate_guard (by rfl) ?_; dsimp only)); refine box_event ?hg (N := 12) ?hd (cs := #[.slice none 0 0]) (t := 24) ?hr ?_; (case hd => rfl); (case hg => rfl); (case hr => first | (go_simp; done) | (go_simp; rfl)); intro b12 hg_b12 wb12 hbox hb; have BK_b12 := Aside0.mk hbox; have HB_b12 := Aside0.mk hb; have GE_b12 := Aside0.mk (Nat.le_of_eq hg_b12.symm); clear hbox hb hg_b12; have zb120 := (blk_cell BK_b12.out 0).trans (show _ = some (Value.slice none 0 0) from rfl); have fb120 := blk_frozen BK_b12.out 0))
  obtain ⟨g12, V12⟩ : ∃ g, Aside0 (Kd.R k42 42 wz8 g (fun _ => True) (.slice A12 z1.length c12) z1) := ⟨_, V12_⟩
  clear V12_
  refine at_world (F := fun w' => Bx W bx A n0 c w' ∧ w'.heap[b12]? = some (.cells #[.slice A12 z1.length c12] 24 (0, 0)) ∧ Kd.R k42 42 w' g12 (fun _ => True) (.slice A12 z1.length c12) z1) ⟨X8.out.below (below_set HB_b12.out GE_b12.out), blk_put BK_b12.out 0 _ rfl, Kd.R_set (Kd.R_below V12.out HB_b12.out) BK_b12.out (by decide) 0 _⟩ ?_
  clear X7 Y7 X8 Y8 xc8 yc8 HB8 V12 BK_b12 HB_b12 GE_b12 zb120 fb120
  rintro w9 ⟨p_, q_, r_⟩
  have X9 := Aside0.mk p_
  have U9 := Aside0.mk r_
  have u9 := (blk_cell q_ 0).trans (show _ = some (Value.slice A12 z1.length c12) from rfl)
  clear p_ q_ r_
  rcases HZG.out with ⟨k1, k2, k3⟩ | ⟨k1, k2, k3⟩
  · have hf1 : (z2 != 0) = true := by rw [bne_iff_ne]; exact k1
    have hle : decide (z3 ≤ (s.size : Int)) = true := decide_eq_true k3
    have hz0 : z1 = [] := k2
    subst hz0
    clear k1 k2 k3
    go_wp2
    go_ret
    exact ⟨rfl, X9.out.wb⟩
  · have hz2 : z2 = 0 := k1
    have hz3 : z3 = 0 := k3
    have HFZ := Aside0.mk (show Valid (z1.map toF) from k2)
    subst hz2
    subst hz3
    clear k1 k2 k3
    go_wp2_with (first | (go_at_call 11; ((with_reducible refine (valid_R U9.out HFZ.out).mono ?_)); rintro e_ wz10 ⟨rfl, hb_⟩; have X10 := Aside0.mk (X9.out.below hb_); clear hb_))
    go_ret
    exact ⟨rfl, X10.out.wb⟩
theorem domains_any (A : Option Addr) (c : Nat) (l0 : List S42) (A1 : Option Addr) (c1 : Nat) (k0 : List S42) (s : ByteArray) (W : World) (hd : DomIn W A c l0) (h2 : DomIn W A1 c1 k0) (ht : Tab W) :
    Calls Tryd.prog 3 #[.agg #[.slice A l0.length c], .agg #[.slice A1 k0.length c1], .string s] W fun e w' => e = .returned (.bool true) ∧ Below W.heap.size W w' := by
  by_cases hE : fewB l0 = true ∧ fewB k0 = true ∧ s.size ≤ 3000
  · obtain ⟨hF, hG, hS⟩ := hE
    cases hv1 : decide (Valid (l0.map toF)) with
    | false => exact domains_A A c l0 A1 c1 k0 s W hd h2 ht hF hG hS hv1
    | true =>
      cases hv2 : decide (Valid (k0.map toF)) with
      | false => exact domains_B A c l0 A1 c1 k0 s W hd h2 ht hF hG hS hv1 hv2
      | true => exact domains_C A c l0 A1 c1 k0 s W hd h2 ht hF hG hS hv1 hv2
  · exact domains_early A c l0 A1 c1 k0 s W hd h2 ht hE
end Go.Proofs.YtgddmfphlhlcjaaDoor.FcW
