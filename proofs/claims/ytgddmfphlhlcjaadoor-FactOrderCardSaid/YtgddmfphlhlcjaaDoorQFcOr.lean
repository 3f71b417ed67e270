/- The law FactOrder answers true. -/
import Derived.Test.YtgddmfphlhlcjaaDoorQFcCs
namespace Go.Proofs.YtgddmfphlhlcjaaDoor.FcW
open Go.RowKit Go.Proofs.YtgddmfphlhlcjaaDoorW.PrintWords Go.Proofs.YtgddmfphlhlcjaaDoorW.PrintLast Go.Proofs.YtgddmfphlhlcjaaDoorW.PrintMore
open Go.Proofs.YtgddmfphlhlcjaaDoor Go.Proofs.YtgddmfphlhlcjaaDoor.PF Go.Proofs.YtgddmfphlhlcjaaDoor.LxP Go.Proofs.YtgddmfphlhlcjaaDoor.LxW Go.Proofs.YtgddmfphlhlcjaaDoor.FcP
set_option linter.unusedVariables false
set_option linter.unusedSimpArgs false

theorem back_step {α : Type} {l : List α} {m : Nat} (h : m < l.length) : (l.drop m).reverse = (l.drop (m + 1)).reverse ++ [l[m]] := by
  rw [List.drop_eq_getElem_cons h, List.reverse_cons]
theorem ctext_RR {w : World} {g1 g2 : Nat} {ok ok1 : Nat → Prop} {vb vt : Value} {lb : List S42} {lt : List Int} (hb : Kd.R k42 42 w g1 ok vb lb) (hv : Kd.R (Kd.int .i64) 3 w g2 ok1 vt lt) (hs : Small lb) (ht : Tab w) (s : ByteArray) (h : bs (caseText (lb.map toF) lt) = s) :
    Calls Tryd.prog 14 #[.agg #[vb], vt] w fun e w' => e = .returned (.string s) ∧ Below w.heap.size w w' := by
  subst h
  obtain ⟨A1, c1, e1⟩ := Kd.R_slice hv
  subst e1
  obtain ⟨g3, g4, g5⟩ := Kd.R_reads' hv
  obtain ⟨A, c, e⟩ := Kd.R_slice hb
  subst e
  obtain ⟨h1, h2, h3⟩ := Kd.R_reads' hb
  exact ctext_any A c lb A1 c1 lt w h3 h2 g5 hs ht
/-- What holds at each round. -/
def OrdW (W : World) (bx b6 : Nat) (A : Option Addr) (c : Nat) (l0 : List S42) (l1 : List Int) (m : Nat) (vb vt : Value) (w : World) : Prop :=
  Bx W bx A l0.length c w ∧ w.heap[b6]? = some (.cells #[vb] 24 (0, 0)) ∧ Kd.R k42 42 w W.heap.size (fun k => k ≠ b6) vb (l0.drop m).reverse ∧ Kd.R (Kd.int .i64) 3 w W.heap.size (fun k => k ≠ b6) vt (l1.drop m).reverse
theorem OrdW.below {W : World} {bx b6 : Nat} {A : Option Addr} {c : Nat} {l0 : List S42} {l1 : List Int} {m : Nat} {vb vt : Value} {w w' : World} (h : OrdW W bx b6 A c l0 l1 m vb vt w) (hb : Below w.heap.size w w') : OrdW W bx b6 A c l0 l1 m vb vt w' :=
  ⟨h.1.below hb, blk_below h.2.1 hb, Kd.R_below h.2.2.1 hb, Kd.R_below h.2.2.2 hb⟩
theorem OrdW.dom {W : World} {bx b6 : Nat} {A : Option Addr} {c : Nat} {l0 : List S42} {l1 : List Int} {m : Nat} {vb vt : Value} {w : World} (h : OrdW W bx b6 A c l0 l1 m vb vt w) : Bx W bx A l0.length c w := h.1
theorem OrdW.cell6 {W : World} {bx b6 : Nat} {A : Option Addr} {c : Nat} {l0 : List S42} {l1 : List Int} {m : Nat} {vb vt : Value} {w : World} (h : OrdW W bx b6 A c l0 l1 m vb vt w) : w.cell? ⟨b6, 0, none⟩ = some vb := (blk_cell h.2.1 0).trans rfl
theorem info22 : True := trivial

set_option maxHeartbeats 64000000 in
set_option maxRecDepth 100000 in
theorem order_any (A : Option Addr) (c : Nat) (l0 : List S42) (A1 : Option Addr) (c1 : Nat) (l1 : List Int) (W : World) (hd : DomIn W A c l0) (h1 : CaseIn W A1 c1 l1) (ht : Tab W) :
    Calls Tryd.prog 5 #[.agg #[.slice A l0.length c], .slice A1 l1.length c1] W fun e w' => e = .returned (.bool true) ∧ Below W.heap.size W w' := by
  have HD := Aside0.mk hd
  have H1 := Aside0.mk h1
  have HT := Aside0.mk ht
  clear hd h1 ht
  obtain ⟨bf, hbf⟩ : ∃ bf, (fewB l0 && decide (l1.length ≤ 70)) = bf := ⟨_, rfl⟩
  obtain ⟨b1, hb1⟩ : ∃ b1, decide (Fits (l0.map toF) l1) = b1 := ⟨_, rfl⟩
  have HBF := Aside0.mk hbf
  have HQ1 := Aside0.mk hb1
  clear hbf hb1
  go_enter Tryd.func5, Tryd.ntmps5
  go_upto_region 1 with (first | ((with_reducible refine gate_dst (N := 2) rfl ?_); (try (refine gate_guard (by rfl) ?_; dsimp only)); refine box_event ?hg (N := 2) ?hd (cs := #[.slice A l0.length c]) (t := 24) ?hr ?_; (case hd => rfl); (case hg => rfl); (case hr => first | (go_simp; done) | (go_simp; rfl)); intro bx hg_bx wbx hbox hb; have BK_bx := Aside0.mk hbox; have HB_bx := Aside0.mk hb; have GE_bx := Aside0.mk (Nat.le_of_eq hg_bx.symm); clear hbox hb hg_bx))
  refine at_world (F := fun w' => Bx W bx A l0.length c w') ⟨BK_bx.out, HB_bx.out⟩ ?_
  clear BK_bx HB_bx GE_bx
  intro w0 p_
  have X0 := Aside0.mk p_
  clear p_
  have xc0 := X0.out.cell
  go_upto_region 2 with (first | (go_at_call 8; ((with_reducible refine (head_in HT.out X0.out.wb).mono ?_)); rintro e_ wz1 ⟨rfl, hb_⟩; have X1 := Aside0.mk (X0.out.below hb_); have HB1 := Aside0.mk hb_; have xc1 := X1.out.cell; clear hb_))
  cases bf with
  | false =>
    go_wp2_with (first | (go_at_call 9; ((with_reducible refine (few_in HD.out H1.out X1.out false HBF.out).mono ?_)); rintro e_ wz2 ⟨rfl, hb_⟩; have X2 := Aside0.mk (X1.out.below hb_); have HB2 := Aside0.mk hb_; have xc2 := X2.out.cell; clear hb_))
    go_ret
    exact ⟨rfl, X2.out.wb⟩
  | true =>
    have HSM := Aside0.mk (few_small (by have := HBF.out; simp only [Bool.and_eq_true] at this; exact this.1)).1
    have H70 := Aside0.mk (show l1.length ≤ 70 by have := HBF.out; simp only [Bool.and_eq_true, decide_eq_true_eq] at this; omega)
    cases b1 with
    | false =>
      go_wp2_with (first | (go_at_call 9; ((with_reducible refine (few_in HD.out H1.out X1.out true HBF.out).mono ?_)); rintro e_ wz2 ⟨rfl, hb_⟩; have X2 := Aside0.mk (X1.out.below hb_); have HB2 := Aside0.mk hb_; have xc2 := X2.out.cell; clear hb_) | (go_at_call 16; ((with_reducible refine (fits_in HD.out H1.out HSM.out X2.out false HQ1.out).mono ?_)); rintro e_ wz3 ⟨rfl, hb_⟩; have X3 := Aside0.mk (X2.out.below hb_); have HB3 := Aside0.mk hb_; have xc3 := X3.out.cell; clear hb_))
      go_ret
      exact ⟨rfl, X3.out.wb⟩
    | true =>
      have HF1 := Aside0.mk (of_decide_eq_true HQ1.out)
      have HLN := Aside0.mk (show l1.length = l0.length by have := within_length HF1.out.2; rwa [List.length_map] at this)
      go_upto_region 4 with (first | (go_at_call 9; ((with_reducible refine (few_in HD.out H1.out X1.out true HBF.out).mono ?_)); rintro e_ wz2 ⟨rfl, hb_⟩; have X2 := Aside0.mk (X1.out.below hb_); have HB2 := Aside0.mk hb_; have xc2 := X2.out.cell; clear hb_) | (go_at_call 16; ((with_reducible refine (fits_in HD.out H1.out HSM.out X2.out true HQ1.out).mono ?_)); rintro e_ wz3 ⟨rfl, hb_⟩; have X3 := Aside0.mk (X2.out.below hb_); have HB3 := Aside0.mk hb_; have xc3 := X3.out.cell; clear hb_))
      refine at_world (F := fun w' => Bx W bx A l0.length c w') X3.out ?_
      clear X0 xc0 X1 xc1 X2 xc2 X3 xc3 HB1 HB2 HB3
      intro w3 p_
      have X3 := Aside0.mk p_
      clear p_
      go_upto_region 5 with (first | ((with_reducible refine gate_dst (N := 25) rfl ?_); refine Kd.R_lit (Kd.int .i64) (w0 := w3) w3.heap.size 3 ?hg (N := 25) ?hd (xs := []) (inner := []) (ok := fun _ => True) (okp := fun _ => True) ?hr (Kd.reps_scalar []) (fun _ hk => hk) trivial (Below.refl _ _) (Nat.le_refl _) (by simp) ?_; (case hd => rfl); (case hg => rfl); (case hr => first | (go_simp; done) | (go_simp; rfl)); intro v25 wl_ ho_ hb_ hg_ hn_; have HO := Aside0.mk ho_; have HBo := Aside0.mk hb_; clear ho_ hb_ hg_ hn_) | ((with_reducible refine gate_dst (N := 6) rfl ?_); (try (refine gate_guard (by rfl) ?_; dsimp only)); refine box_event ?hg (N := 6) ?hd (cs := #[.slice none 0 0]) (t := 24) ?hr ?_; (case hd => rfl); (case hg => rfl); (case hr => first | (go_simp; done) | (go_simp; rfl)); intro b6 hg_b6 wb6 hbox hb; have BK_b6 := Aside0.mk hbox; have HB_b6 := Aside0.mk hb; have GE_b6 := Aside0.mk (Nat.le_of_eq hg_b6.symm); clear hbox hb hg_b6; have zb60 := (blk_cell BK_b6.out 0).trans (show _ = some (Value.slice none 0 0) from rfl); have fb60 := blk_frozen BK_b6.out 0))
      have HW6 : W.heap.size ≤ b6 := Nat.le_trans X3.out.wb.size (Nat.le_trans HBo.out.size GE_b6.out)
      have HX6 : bx ≠ b6 := by have := blk_lt X3.out.1; have := HBo.out.size; have := GE_b6.out; omega
      refine at_world (F := fun w' => OrdW W bx b6 A c l0 l1 l1.length (.slice none 0 0) v25 w') ⟨X3.out.below (below_step HBo.out (below_set HB_b6.out GE_b6.out)), blk_put BK_b6.out 0 _ rfl, by rw [HLN.out, List.drop_length]; exact Kd.R_nil _ _ _ _ _, by
        rw [List.drop_length]
        have h_ := Kd.R_set (Kd.R_below (Kd.R_bound HO.out) HB_b6.out) BK_b6.out (by decide) 0 (Value.slice none 0 0)
        exact Kd.R_lower (Kd.R_mono h_ (fun k hk => by have := hk.2.2.1; have := GE_b6.out; omega)) X3.out.wb.size⟩ ?_
      clear X3 HO HBo BK_b6 HB_b6 GE_b6 zb60 fb60
      intro w4 p_
      have O4 := Aside0.mk p_
      clear p_
      have h70 := H70.out
      go_wp2
      go_loopg [7, 8] l1.length (fun gk v7 v8 wr => ∃ (m : Nat) (z : Int) (vb vt : Value), m ≤ gk ∧ m ≤ l1.length ∧ v7 = vt ∧ v8 = .int .i64 z ∧ z = (m : Int) - 1 ∧ Aside0 (OrdW W bx b6 A c l0 l1 m vb vt wr))
      case atStart => exact ⟨l1.length, _, _, _, Nat.le_refl _, Nat.le_refl _, rfl, rfl, rfl, O4⟩
      case round =>
        clear O4
        obtain ⟨m, z, vb, vt, hgk, hm, e7, rfl, hz, HO⟩ := hrel
        obtain rfl := e7.symm
        cases m with
        | succ m =>
          cases gk with
          | zero => omega
          | succ k1 =>
            obtain rfl : z = (m : Int) := by omega
            clear hz
            have hd1 : decide ((0 : Int) ≤ (m : Int)) = true := decide_eq_true (by omega)
            have hm1 : m < l1.length := by omega
            have hm0 : m < l0.length := by rw [← HLN.out]; exact hm1
            obtain ⟨ad, e0_, hx0, hx1, hx2, hx3⟩ := at_T42 HD.out.1 (m : Int) (by omega) (by omega)
            simp only [Int.toNat_natCast] at hx0 hx1 hx2 hx3
            subst e0_
            obtain ⟨a1, e1_, hy⟩ := at_I H1.out.1 m hm1
            subst e1_
            have HY := Aside0.mk hy
            clear hy
            have hrd := rdT_get hm0
            rw [hrd] at hx0 hx1 hx2 hx3
            have HBS := Aside0.mk (back_step hm0)
            have HBT := Aside0.mk (back_step hm1)
            generalize l0[m] = x at hx0 hx1 hx2 hx3 HBS
            generalize l1[m] = y at HY HBT
            clear hrd
            have HX := Aside0.mk (And.intro hx0 (And.intro hx1 (And.intro hx2 hx3)))
            clear hx0 hx1 hx2 hx3
            go_upto_region 8 with (fail)
            have q0 := HO.out.cell6
            have q1 := HO.out.dom.cell
            have q2 := (HO.out.dom.wb.cell (World.block_lt_of_cell? W _ HX.out.1)).trans HX.out.1
            have q3 := (HO.out.dom.wb.cell (World.block_lt_of_cell? W _ HX.out.2.1)).trans HX.out.2.1
            have q4 := (HO.out.dom.wb.cell (World.block_lt_of_cell? W _ HX.out.2.2.1)).trans HX.out.2.2.1
            have q5 := (HO.out.dom.wb.cell (World.block_lt_of_cell? W _ HX.out.2.2.2)).trans HX.out.2.2.2
            have p1 := eq_true (show (0 : Int) ≤ (m : Int) by omega)
            have p2 := eq_true (show (m : Int) < (l0.length : Int) by omega)
            have p3 := eq_true hm0
            refine start_ (n := 11) (S := fun w' => w'.cell? ⟨b6, 0, none⟩ = some vb ∧ w'.cell? ⟨bx, 0, none⟩ = some (.slice (some ad) l0.length c) ∧ w'.cell? (ad.add (m * 4)) = some (.string x.f0) ∧ w'.cell? ⟨(ad.add (m * 4)).block, (ad.add (m * 4)).off + 1, none⟩ = some (.int .i64 x.f1) ∧ w'.cell? ⟨(ad.add (m * 4)).block, (ad.add (m * 4)).off + 2, none⟩ = some (.int .i64 x.f2) ∧ w'.cell? ⟨(ad.add (m * 4)).block, (ad.add (m * 4)).off + 3, none⟩ = some (.int .i64 x.f3)) (ds := [8, 10]) #[false, false, false, false, false, false, false, false, false, false, false] (by kernel_rfl) rfl rfl ⟨q0, q1, q2, q3, q4, q5⟩ (fun hHeld => ?_)
            obtain ⟨wd, hwd⟩ : ∃ wd, wr.drew = wd := ⟨_, rfl⟩
            have HOd := Aside0.mk (show OrdW W bx b6 (some ad) c l0 l1 (m + 1) vb vt wd by rw [← hwd]; exact HO.out.below (below_drew1 (Below.refl _ _)))
            rw [hwd] at hHeld ⊢
            clear hwd q0 q1 q2 q3 q4 q5 HO
            refine pure_ (i := 0) (N := some 33) (v := ?_) (a' := ?_) #[true, false, false, false, false, false, false, false, false, false, false] rfl rfl (by kernel_rfl) (fun _ _ _ h => h) (Or.inl ⟨by rfl, ?_⟩) ?_ ?_
            rotate_left
            · intro w'
              go_simp
              with_reducible rfl
            rotate_left
            · simp only [Act.put, List.setIfInBounds_toArray, List.set_cons_zero, List.set_cons_succ, i64_w, i32_w]
              rfl
            refine take_ (i := 1) (N := some 34) (v := ?_) (a' := ?_) #[true, true, false, false, false, false, false, false, false, false, false] rfl rfl (by kernel_rfl) (fun _ _ _ h => h) (Or.inl ⟨by rfl, ?_⟩) hHeld ?_ ?_
            rotate_left
            · rintro w' ⟨s0, s1, s2, s3, s4, s5⟩
              go_simp
              with_reducible rfl
            rotate_left
            · simp only [Act.put, List.setIfInBounds_toArray, List.set_cons_zero, List.set_cons_succ, i64_w, i32_w]
              rfl
            refine pure_ (i := 2) (N := some 35) (v := ?_) (a' := ?_) #[true, true, true, false, false, false, false, false, false, false, false] rfl rfl (by kernel_rfl) (fun _ _ _ h => h) (Or.inl ⟨by rfl, ?_⟩) ?_ ?_
            rotate_left
            · intro w'
              go_simp
              with_reducible rfl
            rotate_left
            · simp only [Act.put, List.setIfInBounds_toArray, List.set_cons_zero, List.set_cons_succ, i64_w, i32_w]
              rfl
            refine take_ (i := 3) (N := some 36) (v := ?_) (a' := ?_) #[true, true, true, true, false, false, false, false, false, false, false] rfl rfl (by kernel_rfl) (fun _ _ _ h => h) (Or.inl ⟨by rfl, ?_⟩) hHeld ?_ ?_
            rotate_left
            · rintro w' ⟨s0, s1, s2, s3, s4, s5⟩
              go_simp
              with_reducible rfl
            rotate_left
            · simp only [Act.put, List.setIfInBounds_toArray, List.set_cons_zero, List.set_cons_succ, i64_w, i32_w]
              rfl
            refine pure_ (i := 4) (N := some 37) (v := ?_) (a' := ?_) #[true, true, true, true, true, false, false, false, false, false, false] rfl rfl (by kernel_rfl) (fun _ _ _ h => h) (Or.inl ⟨by rfl, ?_⟩) ?_ ?_
            rotate_left
            · intro w'
              go_simp
              with_reducible rfl
            rotate_left
            · simp only [Act.put, List.setIfInBounds_toArray, List.set_cons_zero, List.set_cons_succ, i64_w, i32_w]
              rfl
            refine pure_ (i := 5) (N := some 38) (v := ?_) (a' := ?_) #[true, true, true, true, true, true, false, false, false, false, false] rfl rfl (by kernel_rfl) (fun _ _ _ h => h) (Or.inl ⟨by rfl, ?_⟩) ?_ ?_
            rotate_left
            · intro w'
              go_simp
              with_reducible rfl
            rotate_left
            · simp only [Act.put, List.setIfInBounds_toArray, List.set_cons_zero, List.set_cons_succ, i64_w, i32_w]
              rfl
            refine take_ (i := 6) (N := some 39) (v := ?_) (a' := ?_) #[true, true, true, true, true, true, true, false, false, false, false] rfl rfl (by kernel_rfl) (fun _ _ _ h => h) (Or.inl ⟨by rfl, ?_⟩) hHeld ?_ ?_
            rotate_left
            · rintro w' ⟨s0, s1, s2, s3, s4, s5⟩
              go_simp
              with_reducible rfl
            rotate_left
            · simp only [Act.put, List.setIfInBounds_toArray, List.set_cons_zero, List.set_cons_succ, i64_w, i32_w]
              rfl
            refine one_ (i := 7) (N := some 40) #[true, true, true, true, true, true, true, true, false, false, false] rfl rfl (by kernel_rfl) (by decide) (fun K hK => ?_)
            refine value_ (w1 := wd.alloc (.cells ([.string x.f0, .int .i64 x.f1, .int .i64 x.f2, .int .i64 x.f3] : List Value).toArray 42)) (v := .slice (some ⟨wd.heap.size, 0, none⟩) 1 1) (by rfl) rfl (by first | (go_simp; done) | (go_simp; rfl)) ?_
            have bi := below_alloc (Below.refl wd.heap.size wd) (.cells ([.string x.f0, .int .i64 x.f1, .int .i64 x.f2, .int .i64 x.f3] : List Value).toArray 42)
            have HOe := Aside0.mk (HOd.out.below bi)
            have hx0 := (HOe.out.dom.wb.cell (World.block_lt_of_cell? W _ HX.out.1)).trans HX.out.1
            have hx1 := (HOe.out.dom.wb.cell (World.block_lt_of_cell? W _ HX.out.2.1)).trans HX.out.2.1
            have hx2 := (HOe.out.dom.wb.cell (World.block_lt_of_cell? W _ HX.out.2.2.1)).trans HX.out.2.2.1
            have hx3 := (HOe.out.dom.wb.cell (World.block_lt_of_cell? W _ HX.out.2.2.2)).trans HX.out.2.2.2
            refine hK.out _ _ ⟨HOe.out.cell6, HOe.out.dom.cell, hx0, hx1, hx2, hx3⟩ (fun hHeld => ?_)
            clear hK K hHeld bi HOe hx0 hx1 hx2 hx3
            refine norm_ (a' := ?_) ?_ ?_
            rotate_left
            · show Act.put _ (some 40) _ = _
              simp only [Act.put, List.setIfInBounds_toArray, List.set_cons_zero, List.set_cons_succ, i64_w, i32_w]
              rfl
            refine last_ (i := 8) (N := some 41) #[true, true, true, true, true, true, true, true, true, false, false] rfl rfl (by kernel_rfl) (by decide) (fun K hK => ?_)
            refine Kd.R_append_step k42 (w0 := W) (W := wd) W.heap.size (by rfl) (.tmp 34) (.tmp 40) 22 42 (.agg #[(.string ⟨#[]⟩), (.int .i64 0), (.int .i64 0), (.int .i64 0)]) 40 rfl Tryd.underlying22 info42 rfl (by decide) (by decide) vb (l0.drop (m + 1)).reverse x [.string x.f0, .int .i64 x.f1, .int .i64 x.f2, .int .i64 x.f3] (fun k => k ≠ b6) (fun _ => False) rfl rfl (k42_mkM _ _ _ x) (fun _ hk => hk.elim) (fun k hk e => by subst e; have := blk_lt HOd.out.2.1; omega) HOd.out.2.2.1 HOd.out.dom.wb HOd.out.dom.wb.size (by rw [List.length_reverse, List.length_drop]; have := HLN.out; omega) ?_
            intro vb1 wa ho_ hb_ hg_ hn_
            have HUa := Aside0.mk ho_
            have HPa := Aside0.mk hb_
            have HGa := Aside0.mk hg_
            have n6 := Aside0.mk (Kd.R_ne HOd.out.2.2.1 HOd.out.2.1 (by decide))
            have nx := Aside0.mk (Kd.R_ne HOd.out.2.2.1 HOd.out.1.1 (by decide))
            have HB6 := Aside0.mk (blk_grown HOd.out.2.1 hg_ n6.out)
            have HBX := Aside0.mk (blk_grown HOd.out.1.1 hg_ nx.out)
            have HVT := Aside0.mk (Kd.R_over' HOd.out.2.2.2 (Kd.R_typed HOd.out.2.2.1) (by decide) hg_)
            clear ho_ hb_ hg_ hn_
            refine hK.out _ _ ?_
            clear hK K HOd n6 nx HGa
            refine norm_ (a' := ?_) ?_ ?_
            rotate_left
            · show Act.put _ (some 41) _ = _
              simp only [Act.put, List.setIfInBounds_toArray, List.set_cons_zero, List.set_cons_succ, i64_w, i32_w]
              rfl
            refine pure_ (i := 9) (N := some 42) (v := ?_) (a' := ?_) #[true, true, true, true, true, true, true, true, true, true, false] rfl rfl (by kernel_rfl) (fun _ _ _ h => h) (Or.inl ⟨by rfl, ?_⟩) ?_ ?_
            rotate_left
            · intro w'
              go_simp
              with_reducible rfl
            rotate_left
            · simp only [Act.put, List.setIfInBounds_toArray, List.set_cons_zero, List.set_cons_succ, i64_w, i32_w]
              rfl
            obtain ⟨A3, c3, e3⟩ := Kd.R_slice HUa.out
            subst e3
            have c6 := (blk_cell HB6.out 0).trans (show _ = some vb from rfl)
            have f6 := blk_frozen HB6.out 0
            refine last_ (i := 10) (N := none) #[true, true, true, true, true, true, true, true, true, true, true] rfl rfl (by kernel_rfl) (by decide) (fun K hK => ?_)
            refine skip_ (w1 := wa.setCell ⟨b6, 0, none⟩ (.slice A3 ((l0.drop (m + 1)).reverse ++ [x]).length c3)) (by rfl) rfl (by first | (go_simp; done) | (go_simp; rfl)) ?_
            refine hK.out _ _ ?_
            clear hK K
            refine done_ (by kernel_rfl) ?_
            go_upto_region 9 with (fail)
            have g6 := blk_lt HB6.out
            have h6 := Aside0.mk (show W.heap.size ≤ b6 from HW6)
            refine at_world (F := fun w' => Bx W bx (some ad) l0.length c w' ∧ w'.heap[b6]? = some (.cells #[.slice A3 ((l0.drop (m + 1)).reverse ++ [x]).length c3] 24 (0, 0)) ∧ Kd.R k42 42 w' W.heap.size (fun k => k ≠ b6) (.slice A3 ((l0.drop (m + 1)).reverse ++ [x]).length c3) ((l0.drop (m + 1)).reverse ++ [x]) ∧ Kd.R (Kd.int .i64) 3 w' W.heap.size (fun k => k ≠ b6) vt (l1.drop (m + 1)).reverse) ⟨⟨blk_far HBX.out (p := ⟨b6, 0, none⟩) HX6 _, below_set HPa.out HW6⟩, blk_put HB6.out 0 _ rfl, Kd.R_far HUa.out (p := ⟨b6, 0, none⟩) (fun k hk => hk) _, Kd.R_far HVT.out (p := ⟨b6, 0, none⟩) (fun k hk => hk) _⟩ ?_
            clear c6 f6 g6 h6 HB6 HBX HUa HPa HVT p1 p2 p3
            rintro w9 ⟨p_, q_, r_, s_⟩
            have X9 := Aside0.mk p_
            have B9 := Aside0.mk q_
            have U9 := Aside0.mk r_
            have V9 := Aside0.mk s_
            clear p_ q_ r_ s_
            have hy := (X9.out.wb.cell (World.block_lt_of_cell? W _ HY.out)).trans HY.out
            have p1 := eq_true (show (0 : Int) ≤ (m : Int) by omega)
            have p2 := eq_true (show (m : Int) < (l1.length : Int) by omega)
            have p3 := eq_true hm1
            go_wp2_with ((with_reducible refine gate_builtin (b := .append) (xs := #[.tmp 43, .tmp 48]) rfl ?_); at_builtin; refine Kd.R_append (Kd.int .i64) (w0 := W) W.heap.size rfl (.tmp 43) (.tmp 48) 35 3 (.int .i64 0) 8 rfl Tryd.underlying35 info3 rfl (by decide) (by decide) vt (l1.drop (m + 1)).reverse y [.int .i64 y] (fun k => k ≠ b6) (fun _ => False) rfl (by first | (go_simp; done) | (go_simp; rfl)) ?aP (fun _ hk => hk.elim) ?aF ?aO ?aB ?aS ?aL ?_; (case aP => rfl); (case aF => exact (fun k_ hk e => by have := blk_lt B9.out; omega)); (case aO => exact V9.out); (case aB => exact X9.out.wb); (case aS => exact X9.out.wb.size); (case aL => rw [List.length_reverse, List.length_drop]; omega); intro vt1 wb_ ho_ hb_ hg_ hn_; have V10 := Aside0.mk ho_; have B10 := Aside0.mk hb_; have n6 := Kd.R_ne V9.out B9.out (by decide); have nx := Kd.R_ne V9.out X9.out.1 (by decide); have C10 := Aside0.mk (blk_grown B9.out hg_ n6); have D10 := Aside0.mk (blk_grown X9.out.1 hg_ nx); have U10 := Aside0.mk (Kd.R_over' U9.out (Kd.R_typed V9.out) (by decide) hg_); clear ho_ hb_ hg_ hn_ n6 nx)
            go_roundg k1
            case measure => omega
            case rel =>
              refine ⟨m, (m : Int) - 1, .slice A3 ((l0.drop (m + 1)).reverse ++ [x]).length c3, vt1, by omega, by omega, rfl, ?_, rfl, ⟨⟨⟨D10.out, B10.out⟩, C10.out, ?_, ?_⟩⟩⟩
              · first | rfl | (rw [wrap_id (by omega) (by omega)])
              · rw [HBS.out]; exact U10.out
              · rw [HBT.out]; exact V10.out
        | zero =>
          have hz1 : decide ((0 : Int) ≤ z) = false := decide_eq_false (by omega)
          obtain ⟨sa, hsa⟩ : ∃ sa, bs (caseText ((l0.drop 0).reverse.map toF) (l1.drop 0).reverse) = sa := ⟨_, rfl⟩
          have HSA := Aside0.mk hsa
          have HCO := Aside0.mk (show caseO (l0.map toF) sa = (l1, 0, 0) by rw [← hsa, List.drop_zero, List.drop_zero, List.map_reverse]; exact case_order HF1.out)
          have HSR := Aside0.mk (show Small (l0.drop 0).reverse from ⟨by rw [List.drop_zero, List.length_reverse]; exact HSM.out.1, fun f hf => HSM.out.2 f (by rw [List.drop_zero] at hf; exact List.mem_reverse.1 hf)⟩)
          clear hz hsa
          go_upto_region 10 with (fail)
          have q0 := HO.out.cell6
          have q1 := HO.out.dom.cell
          refine start_ (n := 12) (S := fun w' => w'.cell? ⟨b6, 0, none⟩ = some vb ∧ w'.cell? ⟨bx, 0, none⟩ = some (.slice A l0.length c)) (ds := [4]) #[false, false, false, false, false, false, false, false, false, false, false, false] (by kernel_rfl) rfl rfl ⟨q0, q1⟩ (fun hHeld => ?_)
          obtain ⟨wd, hwd⟩ : ∃ wd, wr.drew = wd := ⟨_, rfl⟩
          have HOd := Aside0.mk (show OrdW W bx b6 A c l0 l1 0 vb vt wd by rw [← hwd]; exact HO.out.below (below_drew1 (Below.refl _ _)))
          rw [hwd] at hHeld ⊢
          clear hwd q0 q1 HO
          refine take_ (i := 0) (N := some 51) (v := ?_) (a' := ?_) #[true, false, false, false, false, false, false, false, false, false, false, false] rfl rfl (by kernel_rfl) (fun _ _ _ h => h) (Or.inl ⟨by rfl, ?_⟩) hHeld ?_ ?_
          rotate_left
          · rintro w' ⟨s0, s1⟩
            go_simp
            with_reducible rfl
          rotate_left
          · simp only [Act.put, List.setIfInBounds_toArray, List.set_cons_zero, List.set_cons_succ, i64_w, i32_w]
            rfl
          refine take_ (i := 1) (N := some 52) (v := ?_) (a' := ?_) #[true, true, false, false, false, false, false, false, false, false, false, false] rfl rfl (by kernel_rfl) (fun _ _ _ h => h) (Or.inl ⟨by rfl, ?_⟩) hHeld ?_ ?_
          rotate_left
          · rintro w' ⟨s0, s1⟩
            go_simp
            with_reducible rfl
          rotate_left
          · simp only [Act.put, List.setIfInBounds_toArray, List.set_cons_zero, List.set_cons_succ, i64_w, i32_w]
            rfl
          refine pure_ (i := 2) (N := some 53) (v := ?_) (a' := ?_) #[true, true, true, false, false, false, false, false, false, false, false, false] rfl rfl (by kernel_rfl) (fun _ _ _ h => h) (Or.inl ⟨by rfl, ?_⟩) ?_ ?_
          rotate_left
          · intro w'
            go_simp
            with_reducible rfl
          rotate_left
          · simp only [Act.put, List.setIfInBounds_toArray, List.set_cons_zero, List.set_cons_succ, i64_w, i32_w]
            rfl
          refine one_ (i := 3) (N := some 54) #[true, true, true, true, false, false, false, false, false, false, false, false] rfl rfl (by kernel_rfl) (by decide) (fun K hK => ?_)
          refine goes_ Tryd.func14 (by kernel_rfl) rfl #[.agg #[vb], vt] (by rfl) rfl rfl (by (try simp only [List.map_toArray, List.map_cons, List.map_nil]); first | done | rfl) ?_
          refine (ctext_RR HOd.out.2.2.1 HOd.out.2.2.2 HSR.out (HT.out.below HOd.out.dom.wb) sa HSA.out).mono ?_
          rintro e_ wi ⟨rfl, bi⟩
          refine ⟨_, rfl, ?_⟩
          have HOi := Aside0.mk (HOd.out.below bi)
          refine hK.out _ _ ⟨HOi.out.cell6, HOi.out.dom.cell⟩ (fun hHeld => ?_)
          clear hK K bi HOd
          refine norm_ (a' := ?_) ?_ ?_
          rotate_left
          · show Act.put _ (some 54) _ = _
            simp only [Act.put, List.setIfInBounds_toArray, List.set_cons_zero, List.set_cons_succ, i64_w, i32_w]
            rfl
          refine last_ (i := 4) (N := some 55) #[true, true, true, true, true, false, false, false, false, false, false, false] rfl rfl (by kernel_rfl) (by decide) (fun K hK => ?_)
          refine goes_ Tryd.func15 (by kernel_rfl) rfl #[.agg #[.slice A l0.length c], .string sa] (by rfl) rfl rfl (by (try simp only [List.map_toArray, List.map_cons, List.map_nil]); first | done | rfl) ?_
          refine (case_in HD.out HSM.out HOi.out.dom sa l1 0 0 HCO.out).mono ?_
          rintro e_ wj ⟨v, rfl, hv_, bj⟩
          refine ⟨_, rfl, ?_⟩
          have XJ := Aside0.mk (HOi.out.dom.below bj)
          have VJ := Aside0.mk hv_
          refine hK.out _ _ ?_
          clear hK K bj hHeld HOi hv_
          refine norm_ (a' := ?_) ?_ ?_
          rotate_left
          · show Act.put _ (some 55) _ = _
            simp only [Act.put, List.setIfInBounds_toArray, List.set_cons_zero, List.set_cons_succ, i64_w, i32_w]
            rfl
          refine pure_ (i := 5) (N := some 50) (v := ?_) (a' := ?_) #[true, true, true, true, true, true, false, false, false, false, false, false] rfl rfl (by kernel_rfl) (fun _ _ _ h => h) (Or.inl ⟨by rfl, ?_⟩) ?_ ?_
          rotate_left
          · intro w'
            go_simp
            with_reducible rfl
          rotate_left
          · simp only [Act.put, List.setIfInBounds_toArray, List.set_cons_zero, List.set_cons_succ, i64_w, i32_w]
            rfl
          refine pure_ (i := 6) (N := some 56) (v := ?_) (a' := ?_) #[true, true, true, true, true, true, true, false, false, false, false, false] rfl rfl (by kernel_rfl) (fun _ _ _ h => h) (Or.inl ⟨by rfl, ?_⟩) ?_ ?_
          rotate_left
          · intro w'
            go_simp
            with_reducible rfl
          rotate_left
          · simp only [Act.put, List.setIfInBounds_toArray, List.set_cons_zero, List.set_cons_succ, i64_w, i32_w]
            rfl
          refine pure_ (i := 7) (N := some 57) (v := ?_) (a' := ?_) #[true, true, true, true, true, true, true, true, false, false, false, false] rfl rfl (by kernel_rfl) (fun _ _ _ h => h) (Or.inl ⟨by rfl, ?_⟩) ?_ ?_
          rotate_left
          · intro w'
            go_simp
            with_reducible rfl
          rotate_left
          · simp only [Act.put, List.setIfInBounds_toArray, List.set_cons_zero, List.set_cons_succ, i64_w, i32_w]
            rfl
          refine pure_ (i := 8) (N := some 58) (v := ?_) (a' := ?_) #[true, true, true, true, true, true, true, true, true, false, false, false] rfl rfl (by kernel_rfl) (fun _ _ _ h => h) (Or.inl ⟨by rfl, ?_⟩) ?_ ?_
          rotate_left
          · intro w'
            go_simp
            with_reducible rfl
          rotate_left
          · simp only [Act.put, List.setIfInBounds_toArray, List.set_cons_zero, List.set_cons_succ, i64_w, i32_w]
            rfl
          refine pure_ (i := 9) (N := some 9) (v := ?_) (a' := ?_) #[true, true, true, true, true, true, true, true, true, true, false, false] rfl rfl (by kernel_rfl) (fun _ _ _ h => h) (Or.inl ⟨by rfl, ?_⟩) ?_ ?_
          rotate_left
          · intro w'
            go_simp
            with_reducible rfl
          rotate_left
          · simp only [Act.put, List.setIfInBounds_toArray, List.set_cons_zero, List.set_cons_succ, i64_w, i32_w]
            rfl
          refine pure_ (i := 10) (N := some 10) (v := ?_) (a' := ?_) #[true, true, true, true, true, true, true, true, true, true, true, false] rfl rfl (by kernel_rfl) (fun _ _ _ h => h) (Or.inl ⟨by rfl, ?_⟩) ?_ ?_
          rotate_left
          · intro w'
            go_simp
            with_reducible rfl
          rotate_left
          · simp only [Act.put, List.setIfInBounds_toArray, List.set_cons_zero, List.set_cons_succ, i64_w, i32_w]
            rfl
          refine pure_ (i := 11) (N := some 11) (v := ?_) (a' := ?_) #[true, true, true, true, true, true, true, true, true, true, true, true] rfl rfl (by kernel_rfl) (fun _ _ _ h => h) (Or.inl ⟨by rfl, ?_⟩) ?_ ?_
          rotate_left
          · intro w'
            go_simp
            with_reducible rfl
          rotate_left
          · simp only [Act.put, List.setIfInBounds_toArray, List.set_cons_zero, List.set_cons_succ, i64_w, i32_w]
            rfl
          refine done_ (by kernel_rfl) ?_
          have H7 := Aside0.mk (show l1.length ≤ 1000000000000000000 by omega)
          go_wp2_with (first | (go_at_call 17; ((with_reducible refine (equal_same H1.out XJ.out.wb VJ.out H7.out).mono ?_)); rintro e_ wz ⟨rfl, hb_⟩; have XZ := Aside0.mk (XJ.out.below hb_); clear hb_))
          go_ret
          exact ⟨rfl, XZ.out.wb⟩
end Go.Proofs.YtgddmfphlhlcjaaDoor.FcW
