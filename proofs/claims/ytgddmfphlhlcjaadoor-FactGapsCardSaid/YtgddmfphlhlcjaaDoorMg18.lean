/- fact.CaseText tells the canonical text of a case. -/
import Derived.Test.YtgddmfphlhlcjaaDoorMg17
import Derived.Test.YtgddmfphlhlcjaaDoorMg13
namespace Go.Proofs.YtgddmfphlhlcjaaDoor.FcW
open Go.RowKit Go.Proofs.YtgddmfphlhlcjaaDoorW.PrintWords Go.Proofs.YtgddmfphlhlcjaaDoorW.PrintLast Go.Proofs.YtgddmfphlhlcjaaDoorW.PrintMore
open Go.Proofs.YtgddmfphlhlcjaaDoor Go.Proofs.YtgddmfphlhlcjaaDoor.PF Go.Proofs.YtgddmfphlhlcjaaDoor.LxP Go.Proofs.YtgddmfphlhlcjaaDoor.LxW Go.Proofs.YtgddmfphlhlcjaaDoor.FcP
set_option linter.unusedVariables false
set_option linter.unusedSimpArgs false

theorem text_any (A : Option Addr) (c : Nat) (l0 : List S42) (w : World) (hr : Kd.C k42 w A l0.length l0) (hc0 : l0.length ≤ c) (ht : Tab w) (hsm : Small l0) :
    Calls Tryd.prog 10 #[.agg #[.slice A l0.length c]] w fun e w' => e = .returned (.string (bs (text (l0.map toF)))) ∧ Below w.heap.size w w' := by
  unfold text
  by_cases hv : Valid (l0.map toF)
  · rw [if_pos hv]; exact text_valid A c l0 w hr hc0 ht hsm hv
  · rw [if_neg hv]; exact text_invalid A c l0 w hr hc0 hsm hv
theorem entries_length : ∀ (d : List Fc) (c : List Int), c.length = d.length → (entries d c).length = d.length
  | [], [], _ => rfl
  | [], x :: c, h => by simp at h
  | f :: d, [], h => by simp at h
  | f :: d, x :: c, h => by
    have := entries_length d c (by simpa using h)
    simp [entries, this]
theorem entries_get : ∀ (d : List Fc) (c : List Int) (j : Nat) (f : Fc) (x : Int), d[j]? = some f → c[j]? = some x → (entries d c)[j]? = some (entry f x)
  | [], c, j, f, x, h, _ => by simp at h
  | g :: d, [], j, f, x, _, h => by simp at h
  | g :: d, y :: c, 0, f, x, h1, h2 => by
    simp only [List.getElem?_cons_zero, Option.some.injEq] at h1 h2
    subst h1; subst h2
    rfl
  | g :: d, y :: c, j + 1, f, x, h1, h2 => by
    simp only [List.getElem?_cons_succ] at h1 h2
    simp only [entries, List.getElem?_cons_succ]
    exact entries_get d c j f x h1 h2
theorem join_joined : ∀ l : List (List UInt8), Lib.join l [44, 32] = joined l
  | [] => rfl
  | [a] => by simp [Lib.join, joined, List.intercalate, List.intersperse]
  | a :: b :: r => by
    have ih := join_joined (b :: r)
    unfold Lib.join at ih ⊢
    rw [joined, ← ih]
    simp [List.intercalate, List.intersperse]
theorem joined_len : ∀ (l : List (List UInt8)), (∀ x ∈ l, x.length ≤ 40) → (joined l).length ≤ 42 * l.length
  | [], _ => by simp [joined]
  | [a], h => by have := h a (List.mem_cons_self ..); simp [joined]; omega
  | a :: b :: r, h => by
    have h1 := h a (List.mem_cons_self ..)
    have h2 := joined_len (b :: r) fun x hx => h x (List.mem_cons_of_mem _ hx)
    rw [joined]
    simp only [List.length_append, List.length_cons] at h2 ⊢
    omega
theorem entries_len : ∀ (d : List Fc) (c : List Int), (∀ f ∈ d, factOk f = true) → within d c = true → ∀ x ∈ entries d c, x.length ≤ 40
  | [], c, _, _, x, hx => by simp [entries] at hx
  | f :: d, [], _, h, x, hx => by simp [entries] at hx
  | f :: d, y :: c, hf, h, x, hx => by
    simp only [within, Bool.and_eq_true, decide_eq_true_eq] at h
    obtain ⟨⟨h1, h2⟩, h3⟩ := h
    simp only [entries, List.mem_cons] at hx
    rcases hx with rfl | hx
    · obtain ⟨g1, g2⟩ := fact_cases (hf f (List.mem_cons_self ..))
      have hn : f.name.length ≤ 24 := by
        simp only [nameOk, Bool.and_eq_true, decide_eq_true_eq] at g1
        exact g1.2
      have := (dec_ok y.toNat (by omega)).2.2.2
      unfold entry
      simp
      omega
    · exact entries_len d c (fun g hg => hf g (List.mem_cons_of_mem _ hg)) h3 x hx
theorem info9 : (Tryd.prog.info? 9).map (fun i => (i.zero, i.size, i.bytes)) = some (some (.string ⟨#[]⟩), 1, 16) := by kernel_rfl

set_option maxHeartbeats 16000000 in
set_option maxRecDepth 100000 in
theorem ctext_unfit (A : Option Addr) (c : Nat) (l0 : List S42) (A1 : Option Addr) (c1 : Nat) (l1 : List Int) (w : World) (hr : Kd.C k42 w A l0.length l0) (hc0 : l0.length ≤ c) (hr1 : Kd.C (Kd.int .i64) w A1 l1.length l1) (hsm : Small l0) (hf : ¬ Fits (l0.map toF) l1) : Calls Tryd.prog 14 #[.agg #[.slice A l0.length c], .slice A1 l1.length c1] w fun e w' => e = .returned (.string (bs [])) ∧ Below w.heap.size w w' := by
  have HC := Aside0.mk hr
  have HC1 := Aside0.mk hr1
  have HSM := Aside0.mk hsm
  have HF := Aside0.mk hf
  clear hr hr1 hsm hf
  go_enter Tryd.func14, Tryd.ntmps14
  go_upto_region 1 with (first | ((with_reducible refine gate_dst (N := 2) rfl ?_); (try (refine gate_guard (by rfl) ?_; dsimp only)); refine box_event ?hg (N := 2) ?hd (cs := #[.slice A l0.length c]) (t := 24) ?hr ?_; (case hd => rfl); (case hg => rfl); (case hr => first | (go_simp; done) | (go_simp; rfl)); intro bx hg_bx wx hbox hb; have BK_bx := Aside0.mk hbox; have HB_bx := Aside0.mk hb; have GE_bx := Aside0.mk (Nat.le_of_eq hg_bx.symm); clear hbox hb hg_bx))
  refine at_world (F := fun w' => w'.heap[bx]? = some (.cells #[.slice A l0.length c] 24 (0, 0)) ∧ Below w.heap.size w w') ⟨BK_bx.out, HB_bx.out⟩ ?_
  clear BK_bx HB_bx GE_bx
  rintro w0 ⟨hX0, hB0⟩
  have X0 := Aside0.mk hX0
  have B0 := Aside0.mk hB0
  clear hX0 hB0
  have x0 := (blk_cell X0.out 0).trans (show _ = some (Value.slice A l0.length c) from rfl)
  go_wp2_with (first | (go_at_call 16; refine (fits_any A c l0 A1 c1 l1 _ (Kd.C_below HC.out B0.out) hc0 (Kd.C_below HC1.out B0.out) HSM.out false (decide_eq_false HF.out)).mono ?_; rintro e_ w1 ⟨rfl, hb⟩; have HB := Aside0.mk hb; clear hb))
  go_ret
  exact ⟨rfl, below_step B0.out HB.out⟩
set_option maxHeartbeats 64000000 in
set_option maxRecDepth 100000 in
theorem ctext_fit (A : Option Addr) (c : Nat) (l0 : List S42) (A1 : Option Addr) (c1 : Nat) (l1 : List Int) (w : World) (hr : Kd.C k42 w A l0.length l0) (hc0 : l0.length ≤ c) (hr1 : Kd.C (Kd.int .i64) w A1 l1.length l1) (hsm : Small l0) (ht : Tab w) (hf : Fits (l0.map toF) l1) : Calls Tryd.prog 14 #[.agg #[.slice A l0.length c], .slice A1 l1.length c1] w fun e w' => e = .returned (.string (bs (joined (entries (l0.map toF) l1)))) ∧ Below w.heap.size w w' := by
  have HTb := Aside0.mk ht
  have h60 : l0.length ≤ 60 := by have := hf.1.2.2; rwa [List.length_map] at this
  have HLEN := Aside0.mk (show l1.length = l0.length by have := within_length hf.2; rwa [List.length_map] at this)
  have HEL := Aside0.mk (show (entries (l0.map toF) l1).length = l0.length by rw [entries_length _ _ (within_length hf.2), List.length_map])
  clear ht
  have HC := Aside0.mk hr
  have HC1 := Aside0.mk hr1
  have HSM := Aside0.mk hsm
  have HF := Aside0.mk hf
  clear hr hr1 hsm hf
  go_enter Tryd.func14, Tryd.ntmps14
  go_upto_region 1 with (first | ((with_reducible refine gate_dst (N := 2) rfl ?_); (try (refine gate_guard (by rfl) ?_; dsimp only)); refine box_event ?hg (N := 2) ?hd (cs := #[.slice A l0.length c]) (t := 24) ?hr ?_; (case hd => rfl); (case hg => rfl); (case hr => first | (go_simp; done) | (go_simp; rfl)); intro bx hg_bx wx hbox hb; have BK_bx := Aside0.mk hbox; have HB_bx := Aside0.mk hb; have GE_bx := Aside0.mk (Nat.le_of_eq hg_bx.symm); clear hbox hb hg_bx))
  refine at_world (F := fun w' => w'.heap[bx]? = some (.cells #[.slice A l0.length c] 24 (0, 0)) ∧ Below w.heap.size w w') ⟨BK_bx.out, HB_bx.out⟩ ?_
  clear BK_bx HB_bx GE_bx
  rintro w0 ⟨hX0, hB0⟩
  have X0 := Aside0.mk hX0
  have B0 := Aside0.mk hB0
  clear hX0 hB0
  have x0 := (blk_cell X0.out 0).trans (show _ = some (Value.slice A l0.length c) from rfl)
  go_upto_region 3 with (first | (go_at_call 16; refine (fits_any A c l0 A1 c1 l1 _ (Kd.C_below HC.out B0.out) hc0 (Kd.C_below HC1.out B0.out) HSM.out true (decide_eq_true HF.out)).mono ?_; rintro e_ w1 ⟨rfl, hb⟩; have HB := Aside0.mk hb; clear hb))
  refine at_world (F := fun w' => w'.heap[bx]? = some (.cells #[.slice A l0.length c] 24 (0, 0)) ∧ Below w.heap.size w w') ⟨blk_below X0.out HB.out, below_step B0.out HB.out⟩ ?_
  clear X0 B0 HB x0
  rintro w2 ⟨hX0, hB0⟩
  have X2 := Aside0.mk hX0
  have B2 := Aside0.mk hB0
  clear hX0 hB0
  have x0 := (blk_cell X2.out 0).trans (show _ = some (Value.slice A l0.length c) from rfl)
  go_wp2
  clear x0
  go_loopg [5, 15] l0.length (fun gk v5 v15 wr => ∃ (j : Nat) (vl : Value), l0.length - j ≤ gk ∧ j ≤ l0.length ∧ v5 = vl ∧ v15 = .int .i64 j ∧ Aside0 (Kd.R Kd.string 9 wr w.heap.size (fun _ => True) vl (((entries (l0.map toF) l1).take j).map bs)) ∧ Aside0 (Below w.heap.size w wr))
  case atStart => exact ⟨0, _, by omega, Nat.zero_le _, rfl, rfl, ⟨Kd.R_nil _ _ _ _ _⟩, B2⟩
  case round =>
    clear X2 B2
    obtain ⟨j, vl, hgk, hj, e5, rfl, HU, HP⟩ := hrel
    obtain rfl := e5.symm
    by_cases hjl : j < l0.length
    · cases gk with
      | zero => omega
      | succ k1 =>
        have hd1 : decide ((j : Int) < (l0.length : Int)) = true := decide_eq_true (by omega)
        have hd2 : decide (j < l0.length) = true := decide_eq_true hjl
        obtain ⟨ad, e0_, hx0, hx1, hx2, hx3⟩ := at_T42 HC.out (j : Int) (by omega) (by omega)
        simp only [Int.toNat_natCast] at hx0 hx1 hx2 hx3
        subst e0_
        have hj1 : j < l1.length := by rw [HLEN.out]; exact hjl
        obtain ⟨a1, e1_, hy⟩ := at_I HC1.out j hj1
        subst e1_
        have HYA := Aside0.mk (show ∀ w' : World, Below w.heap.size w w' → w'.cell? (a1.add j) = some (.int .i64 l1[j]) from fun w' hb => (hb.cell (World.block_lt_of_cell? w _ hy)).trans hy)
        replace hx0 := (HP.out.cell (World.block_lt_of_cell? w _ hx0)).trans hx0
        replace hx1 := (HP.out.cell (World.block_lt_of_cell? w _ hx1)).trans hx1
        replace hx2 := (HP.out.cell (World.block_lt_of_cell? w _ hx2)).trans hx2
        replace hx3 := (HP.out.cell (World.block_lt_of_cell? w _ hx3)).trans hx3
        have p1 := eq_true (show (0 : Int) ≤ (j : Int) by omega)
        have q1 := eq_true (show (j : Int) < (l0.length : Int) by omega)
        obtain ⟨-, hfa, hmem⟩ := fact_at l0 j hjl
        generalize rd_T42 l0 (j : Int) = x at hx0 hx1 hx2 hx3 hfa hmem
        obtain ⟨nm, kd, lo, hi⟩ := x
        have HEN := Aside0.mk (entries_get _ _ j _ l1[j] hfa (List.getElem?_eq_getElem hj1))
        have hwi := ((FcP.within_iff _ _).1 HF.out.2).2 j _ l1[j] hfa (List.getElem?_eq_getElem hj1)
        have hok := HF.out.1.1 _ (List.mem_map_of_mem hmem)
        have hfc := fact_cases hok
        have HXB := Aside0.mk (show 0 ≤ l1[j] ∧ l1[j] ≤ 1000000 by
          have h1 : lo ≤ l1[j] := hwi.1
          have h2 : l1[j] ≤ hi := hwi.2
          have h3 : (kd = 1 ∧ lo = 0 ∧ hi = 1) ∨ (kd = 2 ∧ 0 ≤ lo ∧ lo ≤ hi ∧ hi ≤ 1000000) := hfc.2
          omega)
        have HNL := Aside0.mk (show (byts nm).length ≤ 24 by
          have h1 := hfc.1
          simp only [nameOk, Bool.and_eq_true, decide_eq_true_eq] at h1
          exact h1.2)
        have HEY := Aside0.mk (show entry (toF ⟨nm, kd, lo, hi⟩) l1[j] = byts nm ++ 32 :: 61 :: 32 :: dec l1[j].toNat from rfl)
        simp only at hx0 hx1 hx2 hx3
        clear hfa hmem hwi hok hfc
        go_upto_region 7 with (first | ((with_reducible refine gate_dst (N := 7) rfl ?_); (try (refine gate_guard (by rfl) ?_; dsimp only)); refine box_event ?hg (N := 7) ?hd (cs := #[.string (⟨#[]⟩ : ByteArray), .int .i64 0, .int .i64 0, .int .i64 0]) (t := 42) ?hr ?_; (case hd => rfl); (case hg => rfl); (case hr => first | (go_simp; done) | (go_simp; rfl)); intro b7 hg_b7 w7_ hbox hb; have BK_b7 := Aside0.mk hbox; have HB_b7 := Aside0.mk hb; have GE_b7 := Aside0.mk (Nat.le_of_eq hg_b7.symm); clear hbox hb hg_b7; have zb70 := (blk_cell BK_b7.out 0).trans (show _ = some (Value.string (⟨#[]⟩ : ByteArray)) from rfl); have fb70 := blk_frozen BK_b7.out 0; have zb71 := (blk_cell BK_b7.out 1).trans (show _ = some (Value.int .i64 0) from rfl); have fb71 := blk_frozen BK_b7.out 1; have zb72 := (blk_cell BK_b7.out 2).trans (show _ = some (Value.int .i64 0) from rfl); have fb72 := blk_frozen BK_b7.out 2; have zb73 := (blk_cell BK_b7.out 3).trans (show _ = some (Value.int .i64 0) from rfl); have fb73 := blk_frozen BK_b7.out 3))
        refine at_world (F := fun w' => Kd.R Kd.string 9 w' w.heap.size (fun _ => True) vl (((entries (l0.map toF) l1).take j).map bs) ∧ w'.heap[b7]? = some (.cells #[.string nm, .int .i64 kd, .int .i64 lo, .int .i64 hi] 42 (0, 0)) ∧ Below w.heap.size w w') ⟨Kd.R_below HU.out (below_set (below_set (below_set (below_set HB_b7.out GE_b7.out) GE_b7.out) GE_b7.out) GE_b7.out), (blk_put (blk_put (blk_put (blk_put BK_b7.out 0 _ rfl) 1 _ rfl) 2 _ rfl) 3 _ rfl), below_step HP.out (below_set (below_set (below_set (below_set HB_b7.out GE_b7.out) GE_b7.out) GE_b7.out) GE_b7.out)⟩ ?_
        clear hx0 hx1 hx2 hx3 HP HU BK_b7 HB_b7 GE_b7 zb70 fb70 zb71 fb71 zb72 fb72 zb73 fb73 p1 q1
        rintro w7 ⟨u_, k_, p_⟩
        have HU := Aside0.mk u_
        have BK := Aside0.mk k_
        have HP := Aside0.mk p_
        clear u_ k_ p_
        have k0 := (blk_cell BK.out 0).trans (show _ = some (Value.string nm) from rfl)
        replace hy := (HP.out.cell (World.block_lt_of_cell? w _ hy)).trans hy
        have p1 := eq_true (show (0 : Int) ≤ (j : Int) by omega)
        have q1 := eq_true (show (j : Int) < (l1.length : Int) by omega)
        have q2 := eq_true hj1
        generalize l1[j] = x at hy HEN HXB HEY HYA
        rw [HEY.out] at HEN
        clear HEY
        have hnb : nm.size = (byts nm).length := (byts_length nm).symm
        have c7 : nm.size + 3 ≤ 9223372036854775807 := by have := HNL.out; omega
        have c7b0 := eq_true c7
        have c7b2 : (9223372036854775807 < nm.size + 3) = False := eq_false (Nat.not_lt.2 c7)
        have hdl : (dec x.toNat).length ≤ 7 := (dec_ok _ (by have := HXB.out; omega)).2.2.2
        have c8 : nm.size + 3 + (bs (dec x.toNat)).size ≤ 9223372036854775807 := by
          have := HNL.out
          rw [bs_size]
          omega
        have c8b0 := eq_true c8
        have c8b2 : (9223372036854775807 < nm.size + 3 + (bs (dec x.toNat)).size) = False := eq_false (Nat.not_lt.2 c8)
        have HDL := Aside0.mk hdl
        clear c7 c8 hnb hdl
        refine start_ (n := 13) (S := fun w' => w'.cell? ⟨b7, 0, none⟩ = some (.string nm) ∧ w'.cell? (a1.add j) = some (.int .i64 x)) (ds := [11, 12]) #[false, false, false, false, false, false, false, false, false, false, false, false, false] (by kernel_rfl) rfl rfl ⟨k0, hy⟩ (fun hHeld => ?_)
        obtain ⟨wd, hwd⟩ : ∃ wd, w7.drew = wd := ⟨_, rfl⟩
        have HUd := Aside0.mk (show Kd.R Kd.string 9 wd w.heap.size (fun _ => True) vl (((entries (l0.map toF) l1).take j).map bs) by rw [← hwd]; exact Kd.R_below HU.out (below_drew1 (Below.refl _ _)))
        have BKd := Aside0.mk (show wd.heap[b7]? = some (.cells #[.string nm, .int .i64 kd, .int .i64 lo, .int .i64 hi] 42 (0, 0)) by rw [← hwd]; exact blk_drew BK.out)
        have HPd := Aside0.mk (show Below w.heap.size w wd by rw [← hwd]; exact below_drew1 HP.out)
        rw [hwd] at hHeld ⊢
        clear hwd k0 hy HU BK HP
        refine pure_ (i := 0) (N := some 20) (v := ?_) (a' := ?_) #[true, false, false, false, false, false, false, false, false, false, false, false, false] rfl rfl (by kernel_rfl) (fun _ _ _ h => h) (Or.inl ⟨by rfl, ?_⟩) ?_ ?_
        rotate_left
        · intro w'
          go_simp
          with_reducible rfl
        rotate_left
        · simp only [Act.put, List.setIfInBounds_toArray, List.set_cons_zero, List.set_cons_succ, i64_w, i32_w]
          rfl
        refine pure_ (i := 1) (N := some 21) (v := ?_) (a' := ?_) #[true, true, false, false, false, false, false, false, false, false, false, false, false] rfl rfl (by kernel_rfl) (fun _ _ _ h => h) (Or.inl ⟨by rfl, ?_⟩) ?_ ?_
        rotate_left
        · intro w'
          go_simp
          with_reducible rfl
        rotate_left
        · simp only [Act.put, List.setIfInBounds_toArray, List.set_cons_zero, List.set_cons_succ, i64_w, i32_w]
          rfl
        refine take_ (i := 2) (N := some 22) (v := ?_) (a' := ?_) #[true, true, true, false, false, false, false, false, false, false, false, false, false] rfl rfl (by kernel_rfl) (fun _ _ _ h => h) (Or.inl ⟨by rfl, ?_⟩) hHeld ?_ ?_
        rotate_left
        · rintro w' ⟨s0, s1⟩
          go_simp
          with_reducible rfl
        rotate_left
        · simp only [Act.put, List.setIfInBounds_toArray, List.set_cons_zero, List.set_cons_succ, i64_w, i32_w]
          rfl
        refine pure_ (i := 3) (N := some 23) (v := ?_) (a' := ?_) #[true, true, true, true, false, false, false, false, false, false, false, false, false] rfl rfl (by kernel_rfl) (fun _ _ _ h => h) (Or.inl ⟨by rfl, ?_⟩) ?_ ?_
        rotate_left
        · intro w'
          go_simp
          with_reducible rfl
        rotate_left
        · simp only [Act.put, List.setIfInBounds_toArray, List.set_cons_zero, List.set_cons_succ, i64_w, i32_w]
          rfl
        refine pure_ (i := 4) (N := some 24) (v := ?_) (a' := ?_) #[true, true, true, true, true, false, false, false, false, false, false, false, false] rfl rfl (by kernel_rfl) (fun _ _ _ h => h) (Or.inl ⟨by rfl, ?_⟩) ?_ ?_
        rotate_left
        · intro w'
          go_simp
          with_reducible rfl
        rotate_left
        · simp only [Act.put, List.setIfInBounds_toArray, List.set_cons_zero, List.set_cons_succ, i64_w, i32_w]
          rfl
        refine pure_ (i := 5) (N := some 25) (v := ?_) (a' := ?_) #[true, true, true, true, true, true, false, false, false, false, false, false, false] rfl rfl (by kernel_rfl) (fun _ _ _ h => h) (Or.inl ⟨by rfl, ?_⟩) ?_ ?_
        rotate_left
        · intro w'
          go_simp
          with_reducible rfl
        rotate_left
        · simp only [Act.put, List.setIfInBounds_toArray, List.set_cons_zero, List.set_cons_succ, i64_w, i32_w]
          rfl
        refine pure_ (i := 6) (N := some 26) (v := ?_) (a' := ?_) #[true, true, true, true, true, true, true, false, false, false, false, false, false] rfl rfl (by kernel_rfl) (fun _ _ _ h => h) (Or.inl ⟨by rfl, ?_⟩) ?_ ?_
        rotate_left
        · intro w'
          go_simp
          with_reducible rfl
        rotate_left
        · simp only [Act.put, List.setIfInBounds_toArray, List.set_cons_zero, List.set_cons_succ, i64_w, i32_w]
          rfl
        refine take_ (i := 7) (N := some 27) (v := ?_) (a' := ?_) #[true, true, true, true, true, true, true, true, false, false, false, false, false] rfl rfl (by kernel_rfl) (fun _ _ _ h => h) (Or.inl ⟨by rfl, ?_⟩) hHeld ?_ ?_
        rotate_left
        · rintro w' ⟨s0, s1⟩
          go_simp
          with_reducible rfl
        rotate_left
        · simp only [Act.put, List.setIfInBounds_toArray, List.set_cons_zero, List.set_cons_succ, i64_w, i32_w]
          rfl
        refine one_ (i := 8) (N := some 28) #[true, true, true, true, true, true, true, true, true, false, false, false, false] rfl rfl (by kernel_rfl) (by decide) (fun K hK => ?_)
        refine goes_ Tryd.func24 (by kernel_rfl) rfl #[.int .i64 x] (by rfl) rfl rfl (by (try simp only [List.map_toArray, List.map_cons, List.map_nil]); first | done | rfl) ?_
        refine (itoa_any x (by have := HXB.out; omega) (by have := HXB.out; omega) wd (HTb.out.below HPd.out)).mono ?_
        rintro e_ wi ⟨rfl, bi⟩
        refine ⟨_, rfl, ?_⟩
        have HUi := Aside0.mk (Kd.R_below HUd.out bi)
        have BKi := Aside0.mk (blk_below BKd.out bi)
        have HPi := Aside0.mk (below_step HPd.out bi)
        refine hK.out _ _ ⟨(blk_cell BKi.out 0).trans rfl, HYA.out _ HPi.out⟩ (fun hHeld => ?_)
        clear hK K bi HUd BKd HPd
        refine norm_ (a' := ?_) ?_ ?_
        rotate_left
        · show Act.put _ (some 28) _ = _
          simp only [Act.put, List.setIfInBounds_toArray, List.set_cons_zero, List.set_cons_succ, i64_w, i32_w]
          rfl
        refine pure_ (i := 9) (N := some 29) (v := ?_) (a' := ?_) #[true, true, true, true, true, true, true, true, true, true, false, false, false] rfl rfl (by kernel_rfl) (fun _ _ _ h => h) (Or.inl ⟨by rfl, ?_⟩) ?_ ?_
        rotate_left
        · intro w'
          go_simp
          with_reducible rfl
        rotate_left
        · simp only [Act.put, List.setIfInBounds_toArray, List.set_cons_zero, List.set_cons_succ, i64_w, i32_w]
          rfl
        refine one_ (i := 10) (N := some 30) #[true, true, true, true, true, true, true, true, true, true, true, false, false] rfl rfl (by kernel_rfl) (by decide) (fun K hK => ?_)
        refine value_ (w1 := wi.alloc (.cells [Value.string (nm ++ (⟨#[32, 61, 32]⟩ : ByteArray) ++ bs (dec x.toNat))].toArray 9)) (v := .slice (some ⟨wi.heap.size, 0, none⟩) 1 1) (by rfl) rfl (by first | (go_simp; done) | (go_simp; rfl)) ?_
        have bi := below_alloc (Below.refl wi.heap.size wi) (.cells [Value.string (nm ++ (⟨#[32, 61, 32]⟩ : ByteArray) ++ bs (dec x.toNat))].toArray 9)
        refine hK.out _ _ ⟨(blk_cell (blk_below BKi.out bi) 0).trans rfl, HYA.out _ (below_step HPi.out bi)⟩ (fun hHeld => ?_)
        clear hK K bi
        refine norm_ (a' := ?_) ?_ ?_
        rotate_left
        · show Act.put _ (some 30) _ = _
          simp only [Act.put, List.setIfInBounds_toArray, List.set_cons_zero, List.set_cons_succ, i64_w, i32_w]
          rfl
        refine last_ (i := 11) (N := some 31) #[true, true, true, true, true, true, true, true, true, true, true, true, false] rfl rfl (by kernel_rfl) (by decide) (fun K hK => ?_)
        refine Kd.R_append_step Kd.string (w0 := w) (W := wi) w.heap.size (by rfl) (.tmp 20) (.tmp 30) 57 9 (.string ⟨#[]⟩) 16 rfl Tryd.underlying57 info9 rfl (by decide) (by decide) vl (((entries (l0.map toF) l1).take j).map bs) (nm ++ (⟨#[32, 61, 32]⟩ : ByteArray) ++ bs (dec x.toNat)) [Value.string (nm ++ (⟨#[32, 61, 32]⟩ : ByteArray) ++ bs (dec x.toNat))] (fun _ => True) (fun _ => False) rfl rfl rfl (fun _ hk => hk.elim) (fun _ _ => trivial) HUi.out HPi.out HPi.out.size (by rw [List.length_map, List.length_take]; omega) ?_
        intro vl1 wa ho_ hb_ hg_ hn_
        have HUa := Aside0.mk ho_
        have HPa := Aside0.mk hb_
        clear ho_ hb_ hg_ hn_
        refine hK.out _ _ ?_
        clear hK K hHeld HUi HPi BKi
        refine norm_ (a' := ?_) ?_ ?_
        rotate_left
        · show Act.put _ (some 31) _ = _
          simp only [Act.put, List.setIfInBounds_toArray, List.set_cons_zero, List.set_cons_succ, i64_w, i32_w]
          rfl
        refine pure_ (i := 12) (N := some 5) (v := ?_) (a' := ?_) #[true, true, true, true, true, true, true, true, true, true, true, true, true] rfl rfl (by kernel_rfl) (fun _ _ _ h => h) (Or.inl ⟨by rfl, ?_⟩) ?_ ?_
        rotate_left
        · intro w'
          go_simp
          with_reducible rfl
        rotate_left
        · simp only [Act.put, List.setIfInBounds_toArray, List.set_cons_zero, List.set_cons_succ, i64_w, i32_w]
          rfl
        refine done_ (by kernel_rfl) ?_
        clear c7b0 c7b2 c8b0 c8b2 p1 q1 q2
        go_wp2
        go_roundg k1
        case measure => omega
        case rel =>
          refine ⟨j + 1, _, by omega, by omega, rfl, by go_num, ⟨?_⟩, HPa⟩
          have h_ := HUa.out
          rw [List.take_add_one, HEN.out, List.map_append]
          have e : nm ++ (⟨#[32, 61, 32]⟩ : ByteArray) ++ bs (dec x.toNat) = bs (byts nm ++ 32 :: 61 :: 32 :: dec x.toNat) := by
            show nm ++ bs [32, 61, 32] ++ bs (dec x.toNat) = _
            have e0 : nm = bs (byts nm) := by apply byts_inj; rw [byts_bs (byts nm)]
            rw [e0, bs_append, bs_append, byts_bs (byts nm)]
            simp
          rw [e] at h_
          exact h_
    · have hjn : j = l0.length := by omega
      subst hjn
      have hd1 : decide ((l0.length : Int) < (l0.length : Int)) = false := decide_eq_false (by omega)
      have hd2 : decide (l0.length < l0.length) = false := decide_eq_false (by omega)
      have HJL := Aside0.mk (joined_len (entries (l0.map toF) l1) (entries_len _ _ HF.out.1.1 HF.out.2))
      have HTK := Aside0.mk (show (entries (l0.map toF) l1).take l0.length = entries (l0.map toF) l1 from List.take_of_length_le (by rw [HEL.out]; omega))
      go_wp2_with (first | (go_at_call 26; refine (join_own HU.out (bs [44, 32]) (joined (entries (l0.map toF) l1)) (by rw [HTK.out, byts_bs [44, 32], ← join_joined, List.map_map]; congr 1; exact (List.map_congr_left (fun x _ => byts_bs x)).trans (List.map_id _)) (by have := HJL.out; have := HEL.out; omega) (by rw [List.length_map, List.length_take]; omega)).mono ?_; rintro e_ w8 ⟨rfl, hb⟩; have HJ := Aside0.mk hb; clear hb))
      go_ret
      exact ⟨rfl, below_step HP.out HJ.out⟩
theorem ctext_any (A : Option Addr) (c : Nat) (l0 : List S42) (A1 : Option Addr) (c1 : Nat) (l1 : List Int) (w : World) (hr : Kd.C k42 w A l0.length l0) (hc0 : l0.length ≤ c) (hr1 : Kd.C (Kd.int .i64) w A1 l1.length l1) (hsm : Small l0) (ht : Tab w) : Calls Tryd.prog 14 #[.agg #[.slice A l0.length c], .slice A1 l1.length c1] w fun e w' => e = .returned (.string (bs (caseText (l0.map toF) l1))) ∧ Below w.heap.size w w' := by
  unfold caseText
  by_cases hf : Fits (l0.map toF) l1
  · rw [if_pos hf]; exact ctext_fit A c l0 A1 c1 l1 w hr hc0 hr1 hsm ht hf
  · rw [if_neg hf]; exact ctext_unfit A c l0 A1 c1 l1 w hr hc0 hr1 hsm hf
end Go.Proofs.YtgddmfphlhlcjaaDoor.FcW
