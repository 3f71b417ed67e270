/- fact.ParseCase of a text that the lexer takes. -/
import Derived.Test.YtgddmfphlhlcjaaDoorMg12
namespace Go.Proofs.YtgddmfphlhlcjaaDoor.FcW
open Go.RowKit Go.Proofs.YtgddmfphlhlcjaaDoorW.PrintWords Go.Proofs.YtgddmfphlhlcjaaDoorW.PrintLast Go.Proofs.YtgddmfphlhlcjaaDoorW.PrintMore
open Go.Proofs.YtgddmfphlhlcjaaDoor Go.Proofs.YtgddmfphlhlcjaaDoor.PF Go.Proofs.YtgddmfphlhlcjaaDoor.LxP Go.Proofs.YtgddmfphlhlcjaaDoor.LxW Go.Proofs.YtgddmfphlhlcjaaDoor.FcP
set_option linter.unusedVariables false
set_option linter.unusedSimpArgs false

set_option maxHeartbeats 64000000 in
set_option maxRecDepth 100000 in
theorem case_lexed (AD : Option Addr) (cD : Nat) (l0 : List S42) (s : ByteArray) (w : World) (hr : Kd.C k42 w AD l0.length l0) (hc0 : l0.length ≤ cD) (hv : fact_Valid.f l0 = some true) (T : Ts) (d : List Fc) (rr : List Int × Int × Int) (h : lexT s = (T.map toS, 0, 0)) (hsz : ∀ p ∈ T, p.2.text.length ≤ 1000000) (hlen : T.length ≤ 1000000) (h60 : l0.length ≤ 60) (hdd : l0.map toF = d) (hnd : (d.map (·.name)).Nodup) (hsm : ∀ f ∈ l0, f.f0.size ≤ 1000000)
    (e1 : ∀ e a, parseCase d s.size T = .error (e, a) → rr = ([], (e : Int), (a : Int))) (e2 : ∀ cs, parseCase d s.size T = .ok cs → rr = (cs, 0, 0)) : Calls Tryd.prog 15 #[.agg #[.slice AD l0.length cD], .string s] w (CSays rr w) := by
  have HN60 := Aside0.mk h60
  have HND := Aside0.mk hnd
  have HDD := Aside0.mk hdd
  clear h60 hnd hdd
  have HCD := Aside0.mk hr
  clear hr
  have hmf : ∀ (fn : Fn) (first cap : Array Value) (w : World), (Instr.makeFunc fn first cap).run Tryd.prog w = .ok (.func fn first cap) w := fun _ _ _ _ => rfl
  have hmm := @run_makeMap Tryd.prog
  go_enter_defers Tryd.func15, Tryd.ntmps15
  go_upto_region 1 with (first | ((with_reducible refine gate_dst (N := 2) rfl ?_); (try (refine gate_guard (by rfl) ?_; dsimp only)); refine box_event ?hg (N := 2) ?hd (cs := #[.slice AD l0.length cD]) (t := 24) ?hr ?_; (case hd => rfl); (case hg => rfl); (case hr => first | (go_simp; done) | (go_simp; rfl)); intro bx hg_bx wx hbox hb; have BK_bx := Aside0.mk hbox; have HB_bx := Aside0.mk hb; have GE_bx := Aside0.mk (Nat.le_of_eq hg_bx.symm); clear hbox hb hg_bx) | ((with_reducible refine gate_dst (N := 4) rfl ?_); (try (refine gate_guard (by rfl) ?_; dsimp only)); refine box_event ?hg (N := 4) ?hd (cs := #[.slice none 0 0]) (t := 35) ?hr ?_; (case hd => rfl); (case hg => rfl); (case hr => first | (go_simp; done) | (go_simp; rfl)); intro bd hg_bd wa hbox hb; have BK_bd := Aside0.mk hbox; have HB_bd := Aside0.mk hb; have GE_bd := Aside0.mk (Nat.le_of_eq hg_bd.symm); clear hbox hb hg_bd) | ((with_reducible refine gate_dst (N := 5) rfl ?_); (try (refine gate_guard (by rfl) ?_; dsimp only)); refine box_event ?hg (N := 5) ?hd (cs := #[.int .i64 0]) (t := 29) ?hr ?_; (case hd => rfl); (case hg => rfl); (case hr => first | (go_simp; done) | (go_simp; rfl)); intro be hg_be wb hbox hb; have BK_be := Aside0.mk hbox; have HB_be := Aside0.mk hb; have GE_be := Aside0.mk (Nat.le_of_eq hg_be.symm); clear hbox hb hg_be) | ((with_reducible refine gate_dst (N := 6) rfl ?_); (try (refine gate_guard (by rfl) ?_; dsimp only)); refine box_event ?hg (N := 6) ?hd (cs := #[.int .i64 0]) (t := 3) ?hr ?_; (case hd => rfl); (case hg => rfl); (case hr => first | (go_simp; done) | (go_simp; rfl)); intro ba hg_ba wc hbox hb; have BK_ba := Aside0.mk hbox; have HB_ba := Aside0.mk hb; have GE_ba := Aside0.mk (Nat.le_of_eq hg_ba.symm); clear hbox hb hg_ba))
  have lx := blk_lt BK_bx.out
  have la := blk_lt BK_bd.out
  have lb := blk_lt BK_be.out
  have n0 : bx < bd := by have := GE_bd.out; omega
  have n1 : bd < be := by have := GE_be.out; omega
  have n2 : be < ba := by have := GE_ba.out; omega
  have GX : w.heap.size ≤ bx := GE_bx.out
  have GD : w.heap.size ≤ bd := by omega
  refine at_world (F := fun w' => Res w' bd be ba 35 (.slice none 0 0) 0 0 ∧ w'.heap[bx]? = some (.cells #[.slice AD l0.length cD] 24 (0, 0)) ∧ Below w.heap.size w w') ⟨⟨blk_below (blk_below BK_bd.out HB_be.out) HB_ba.out, blk_below BK_be.out HB_ba.out, BK_ba.out⟩, blk_below (blk_below (blk_below BK_bx.out HB_bd.out) HB_be.out) HB_ba.out, below_step (below_step (below_step HB_bx.out HB_bd.out) HB_be.out) HB_ba.out⟩ ?_
  clear BK_bx HB_bx GE_bx BK_bd HB_bd GE_bd BK_be HB_be GE_be BK_ba HB_ba GE_ba lx la lb
  rintro w0 ⟨hR0, hX0, hB0⟩
  have R0 := Aside0.mk hR0
  have X0 := Aside0.mk hX0
  have B0 := Aside0.mk hB0
  clear hR0 hX0 hB0
  have x0 := (blk_cell X0.out 0).trans (show _ = some (Value.slice AD l0.length cD) from rfl)
  go_upto_region 4 with (first | (go_at_call 11; refine (fact_Valid.calls AD cD l0 true _ (Kd.C_below HCD.out B0.out) hc0 hv).mono ?_; rintro e_ w1 ⟨rfl, hb⟩; have HB := Aside0.mk hb; clear hb) | (go_at_call 21; refine (lex_any s _).mono ?_; rw [h]; rintro e_ w2 ⟨v, rfl, hv_, hb⟩; obtain ⟨A, c, rfl⟩ := Kd.R_slice hv_; have HV := Aside0.mk hv_; have HL := Aside0.mk hb; have c1 := (blk_cell ((R0.out.below HB.out).below hb).2.1 0).trans (show _ = some (Value.int .i64 0) from rfl); have f1 := blk_frozen ((R0.out.below HB.out).below hb).2.1 0; have c2 := (blk_cell ((R0.out.below HB.out).below hb).2.2 0).trans (show _ = some (Value.int .i64 0) from rfl); have f2 := blk_frozen ((R0.out.below HB.out).below hb).2.2 0; have n3 : be ≠ ba := Nat.ne_of_lt n2; have n4 : ba ≠ be := fun x => n3 x.symm; clear hv_ hb))
  have RD := (R0.out.below HB.out).below HL.out
  have lbe := blk_lt (R0.out.below HB.out).2.1
  have lba := blk_lt (R0.out.below HB.out).2.2
  refine at_world (F := fun w' => Res w' bd be ba 35 (.slice none 0 0) 0 0 ∧ w'.heap[bx]? = some (.cells #[.slice AD l0.length cD] 24 (0, 0)) ∧ Kd.R k77 77 w' w1.heap.size (fun _ => True) (.slice A (T.map toS).length c) (T.map toS) ∧ Below w.heap.size w w') ⟨⟨blk_far (blk_far RD.1 (p := ⟨be, 0, none⟩) (Nat.ne_of_lt n1) _) (p := ⟨ba, 0, none⟩) (by show bd ≠ ba; omega) _, blk_far (blk_put RD.2.1 0 _ rfl) (p := ⟨ba, 0, none⟩) n3 _, blk_put (blk_far RD.2.2 (p := ⟨be, 0, none⟩) n4 _) 0 _ rfl⟩, blk_far (blk_far (blk_below (blk_below X0.out HB.out) HL.out) (p := ⟨be, 0, none⟩) (by show bx ≠ be; omega) _) (p := ⟨ba, 0, none⟩) (by show bx ≠ ba; omega) _, Kd.R_mono (Kd.R_far (Kd.R_far (Kd.R_bound HV.out) (p := ⟨be, 0, none⟩) (fun k hk e => by have := hk.2.1; have : k = be := e; omega) _) (p := ⟨ba, 0, none⟩) (fun k hk e => by have := hk.2.1; have : k = ba := e; omega) _) (fun _ _ => trivial), below_set (below_set (below_step (below_step B0.out HB.out) HL.out) (by omega)) (by omega)⟩ ?_
  generalize w1.heap.size = base at lbe lba ⊢
  clear RD HV HL HB c1 f1 c2 f2 R0 B0 X0 x0
  rintro w3 ⟨r_, x_, v_, b_⟩
  have R3 := Aside0.mk r_
  have X3 := Aside0.mk x_
  have V3 := Aside0.mk v_
  have B3 := Aside0.mk b_
  clear r_ x_ v_ b_
  have q1 := (blk_cell R3.out.2.1 0).trans (show _ = some (Value.int .i64 0) from rfl)
  go_upto_region 8 with (first | ((with_reducible refine gate_dst (N := 33) rfl ?_); (try (refine gate_guard (by rfl) ?_; dsimp only)); refine box_event ?hg (N := 33) ?hd (cs := #[.slice A (T.map toS).length c, .int .i64 0, .int .i64 s.size]) (t := 72) ?hr ?_; (case hd => rfl); (case hg => rfl); (case hr => first | (go_simp; done) | (go_simp; rfl)); intro g hg_g w3b hbox hb; have BK_g := Aside0.mk hbox; have HB_g := Aside0.mk hb; have GE_g := Aside0.mk (Nat.le_of_eq hg_g.symm); clear hbox hb hg_g))
  have lg := blk_lt R3.out.2.2
  have G6 := GE_g.out
  refine at_world (F := fun w' => Res w' bd be ba 35 (.slice none 0 0) 0 0 ∧ w'.heap[bx]? = some (.cells #[.slice AD l0.length cD] 24 (0, 0)) ∧ RdAt w' g A c (T.map toS).length ((0 : Nat) : Int) (s.size : Int) ∧ Kd.R k77 77 w' base (fun k => k < g) (.slice A (T.map toS).length c) (T.map toS) ∧ Below w.heap.size w w' ∧ ba < g ∧ g < w'.heap.size) ⟨R3.out.below HB_g.out, blk_below X3.out HB_g.out, BK_g.out, Kd.R_mono (Kd.R_below (Kd.R_bound V3.out) HB_g.out) (fun k hk => by have := hk.2.2.1; omega), below_step B3.out HB_g.out, by omega, blk_lt BK_g.out⟩ ?_
  clear BK_g HB_g GE_g G6 lg R3 V3 B3 X3 q1
  rintro w4 ⟨r_, x_, t_, v_, b_, n5, n6⟩
  have R4 := Aside0.mk r_
  have X4 := Aside0.mk x_
  have T4 := Aside0.mk t_
  have V4 := Aside0.mk v_
  have B4 := Aside0.mk b_
  clear r_ x_ t_ v_ b_
  have x0 := (blk_cell X4.out 0).trans (show _ = some (Value.slice AD l0.length cD) from rfl)
  go_upto_region 9 with ((with_reducible refine gate_dst (N := 37) rfl ?_); refine Kd.R_make (Kd.int .i64) (w0 := w) w.heap.size 3 rfl (N := 37) rfl 35 (.tmp 36) (.tmp 36) rfl (l0.length : Int) (by go_simp) (by go_simp) Tryd.underlying35 (.int .i64 0) 8 (by kernel_rfl) rfl (by decide) (by decide) 0 (ok := fun k => g < k) (okp := fun _ => False) (by rfl) (fun _ hk => hk.elim) n6 (by omega) (by have := HN60.out; omega) B4.out B4.out.size ?_; intro v1 w5 r_ b_ gr_ at_; rw [Int.toNat_natCast] at r_; obtain ⟨A3, c3, e3⟩ := Kd.R_slice r_; rw [List.length_replicate] at e3; subst e3; have HR5 := Aside0.mk r_; have HB5 := Aside0.mk b_; have HG5 := Aside0.mk gr_; have y0 := (blk_cell (blk_grown R4.out.1 gr_ (fun e => by cases e)) 0).trans (show _ = some (Value.slice none 0 0) from rfl); have yf := blk_frozen (blk_grown R4.out.1 gr_ (fun e => by cases e)) 0; clear r_ b_ gr_ at_)
  have R5 := Aside0.mk (show Res w5 bd be ba 35 (.slice none 0 0) 0 0 from ⟨blk_grown R4.out.1 HG5.out (fun e => by cases e), blk_grown R4.out.2.1 HG5.out (fun e => by cases e), blk_grown R4.out.2.2 HG5.out (fun e => by cases e)⟩)
  refine at_world (F := fun w' => Res w' bd be ba 35 (.slice A3 l0.length c3) 0 0 ∧ w'.heap[bx]? = some (.cells #[.slice AD l0.length cD] 24 (0, 0)) ∧ RdAt w' g A c (T.map toS).length ((0 : Nat) : Int) (s.size : Int) ∧ Kd.R k77 77 w' base (fun k => k < g) (.slice A (T.map toS).length c) (T.map toS) ∧ Kd.R (Kd.int .i64) 3 w' w.heap.size (fun k => g < k) (.slice A3 l0.length c3) (List.replicate l0.length 0) ∧ Below w.heap.size w w' ∧ g < w'.heap.size) ?_ ?_
  · have hbd : ∀ k, g < k → k ≠ bd := fun k hk => by omega
    have hsb : ∀ k, k < g → some k ≠ (none : Option Nat) := fun k _ e => by cases e
    exact ⟨⟨blk_put R5.out.1 0 _ rfl, blk_far R5.out.2.1 (p := ⟨bd, 0, none⟩) (Nat.ne_of_gt n1) _, blk_far R5.out.2.2 (p := ⟨bd, 0, none⟩) (by show ba ≠ bd; omega) _⟩,
      blk_far (blk_grown X4.out HG5.out (fun e => by cases e)) (p := ⟨bd, 0, none⟩) (Nat.ne_of_lt n0) _, blk_far (blk_grown T4.out HG5.out (fun e => by cases e)) (p := ⟨bd, 0, none⟩) (by show g ≠ bd; omega) _,
      Kd.R_set (Kd.R_grown V4.out HG5.out hsb) R5.out.1 (by decide) 0 _, Kd.R_far HR5.out (p := ⟨bd, 0, none⟩) hbd _, below_set HB5.out GD, Nat.lt_of_lt_of_le (Nat.lt_of_lt_of_le n6 HG5.out.size) (grown_set (grown_of_below (Below.refl w5.heap.size w5) (some bd)) 0 (.slice A3 l0.length c3)).size⟩
  clear y0 yf x0 R4 X4 T4 V4 B4 R5 HR5 HB5 HG5
  rintro w6 ⟨r_, x_, t_, v_, cs_, b_, n7⟩
  have R6 := Aside0.mk r_
  have X6 := Aside0.mk x_
  have T6 := Aside0.mk t_
  have V6 := Aside0.mk v_
  have C6 := Aside0.mk cs_
  have B6 := Aside0.mk b_
  clear r_ x_ t_ v_ cs_ b_
  have x0 := (blk_cell X6.out 0).trans (show _ = some (Value.slice AD l0.length cD) from rfl)
  obtain ⟨m, hm⟩ : ∃ m, w6.heap.size = m := ⟨_, rfl⟩
  have hbm := Aside0.mk (below_alloc (Below.refl w6.heap.size w6) (Obj.map #[] 0))
  have hom := Aside0.mk (World.ownsMap_made (H := Unit) w6 Tryd.prog 9 (plainElem Tryd.prog 4))
  rw [hm] at hom
  have x1 := (blk_cell (blk_below X6.out hbm.out) 0).trans (show _ = some (Value.slice AD l0.length cD) from rfl)
  go_upto_block 0 with (fail)
  refine at_world (F := fun w' => CI w w' bx bd be ba g m A c T 0 s.size base AD l0.length cD (.slice A3 l0.length c3) (List.replicate l0.length 0) 0 (.map [])) ⟨blk_below T6.out hbm.out, Kd.R_below V6.out hbm.out, R6.out.below hbm.out, blk_below X6.out hbm.out, Kd.R_mono (Kd.R_below (Kd.R_bound C6.out) hbm.out) (fun k hk => ⟨hk.1, by have := hk.2.2.1; omega⟩), hom.out, below_step B6.out hbm.out⟩ ?_
  have hst : StC w bx bd be ba g m := ⟨GX, n0, n1, n2, n5, by omega⟩
  clear hbm hom R6 X6 T6 V6 C6 B6 x0 x1
  (try simp only [hm])
  clear hm hmf hmm n7
  intro w7 p_
  have HP0 := Aside0.mk p_
  clear p_
  go_wp2
  go_loopg [42] l0.length (fun gk v42 wr => ∃ (j : Nat) (D : DataW Unit), l0.length - j ≤ gk ∧ j ≤ l0.length ∧ v42 = .int .i64 j ∧ Aside0 (CI w wr bx bd be ba g m A c T 0 s.size base AD l0.length cD (.slice A3 l0.length c3) (List.replicate l0.length 0) j D) ∧ Aside0 (Lacks D d (vAt l0.length j)))
  case atStart => exact ⟨0, .map [], by omega, Nat.zero_le _, rfl, HP0, ⟨(fun (e_ : l0.length = d.length) => by rw [vAt_zero, e_]; exact Lacks.start d) (by rw [← HDD.out, List.length_map])⟩⟩
  case round =>
    clear HP0
    obtain ⟨j, D, hgk, hj, rfl, HP, HL⟩ := hrel
    by_cases hjl : j < l0.length
    · cases gk with
      | zero => omega
      | succ k1 =>
        have hd1 : decide ((j : Int) < (l0.length : Int)) = true := decide_eq_true (by omega)
        have hd2 : decide (j < l0.length) = true := decide_eq_true hjl
        obtain ⟨ad, e0_, hx0, hx1, hx2, hx3⟩ := at_T42 HCD.out (j : Int) (by omega) (by omega)
        simp only [Int.toNat_natCast] at hx0 hx1 hx2 hx3
        subst e0_
        replace hx0 := (HP.out.wb.cell (World.block_lt_of_cell? w _ hx0)).trans hx0
        replace hx1 := (HP.out.wb.cell (World.block_lt_of_cell? w _ hx1)).trans hx1
        replace hx2 := (HP.out.wb.cell (World.block_lt_of_cell? w _ hx2)).trans hx2
        replace hx3 := (HP.out.wb.cell (World.block_lt_of_cell? w _ hx3)).trans hx3
        have p1 := eq_true (show (0 : Int) ≤ (j : Int) by omega)
        have q1 := eq_true (show (j : Int) < (l0.length : Int) by omega)
        obtain ⟨-, hfa, hmem⟩ := fact_at l0 j hjl
        rw [HDD.out] at hfa
        have HF := Aside0.mk hfa
        have HSM := Aside0.mk (hsm _ hmem)
        clear hfa hmem
        generalize rd_T42 l0 (j : Int) = x at hx0 hx1 hx2 hx3 HF HSM
        obtain ⟨nm, kd, lo, hi⟩ := x
        simp only at hx0 hx1 hx2 hx3
        go_upto_region 13 with (first | ((with_reducible refine gate_dst (N := 11) rfl ?_); (try (refine gate_guard (by rfl) ?_; dsimp only)); refine box_event ?hg (N := 11) ?hd (cs := #[.string (⟨#[]⟩ : ByteArray), .int .i64 0, .int .i64 0, .int .i64 0]) (t := 42) ?hr ?_; (case hd => rfl); (case hg => rfl); (case hr => first | (go_simp; done) | (go_simp; rfl)); intro b11 hg_b11 w12b hbox hb; have BK_b11 := Aside0.mk hbox; have HB_b11 := Aside0.mk hb; have GE_b11 := Aside0.mk (Nat.le_of_eq hg_b11.symm); clear hbox hb hg_b11; have zb110 := (blk_cell BK_b11.out 0).trans (show _ = some (Value.string (⟨#[]⟩ : ByteArray)) from rfl); have fb110 := blk_frozen BK_b11.out 0; have zb111 := (blk_cell BK_b11.out 1).trans (show _ = some (Value.int .i64 0) from rfl); have fb111 := blk_frozen BK_b11.out 1; have zb112 := (blk_cell BK_b11.out 2).trans (show _ = some (Value.int .i64 0) from rfl); have fb112 := blk_frozen BK_b11.out 2; have zb113 := (blk_cell BK_b11.out 3).trans (show _ = some (Value.int .i64 0) from rfl); have fb113 := blk_frozen BK_b11.out 3))
        refine at_world (F := fun w' => CI w w' bx bd be ba g m A c T 0 s.size base (some ad) l0.length cD (.slice A3 l0.length c3) (List.replicate l0.length 0) j D ∧ w'.heap[b11]? = some (.cells #[.string nm, .int .i64 kd, .int .i64 lo, .int .i64 hi] 42 (0, 0))) ⟨HP.out.below (below_set (below_set (below_set (below_set HB_b11.out GE_b11.out) GE_b11.out) GE_b11.out) GE_b11.out), (blk_put (blk_put (blk_put (blk_put BK_b11.out 0 _ rfl) 1 _ rfl) 2 _ rfl) 3 _ rfl)⟩ ?_
        clear hx0 hx1 hx2 hx3 HP BK_b11 HB_b11 GE_b11 zb110 fb110 zb111 fb111 zb112 fb112 zb113 fb113
        rintro w13 ⟨p_, k_⟩
        have HP := Aside0.mk p_
        have BK := Aside0.mk k_
        clear p_ k_
        have k0 := (blk_cell BK.out 0).trans (show _ = some (Value.string nm) from rfl)
        go_wp2_with (at_mapUpdate; refine wpList_mapUpdate_own _ rfl _ _ _ 65 rfl 9 4 law9 Tryd.underlying65 (plainElem (H := Unit) Tryd.prog 4) m j D rfl HP.out.map (by unfold maxLen; have := HN60.out; omega) _ _ _ rfl rfl (key9 HSM.out) _ [] (plainElem_bool Tryd.underlying4 true) ?_; intro w14 o_ g_; have HO := Aside0.mk o_; have HG := Aside0.mk g_; clear o_ g_)
        go_roundg k1
        case measure => omega
        case rel => have h60_ := HN60.out; exact ⟨j + 1, _, by omega, by omega, (by rw [wrap_id (by omega) (by omega)]; rfl), ⟨HP.out.mapped hst HO.out HG.out⟩, ⟨by rw [← vAt_set hjl]; exact HL.out.put HND.out HF.out (vAt_get hjl)⟩⟩
    · have hjn : j = l0.length := by omega
      subst hjn
      have hd1 : decide ((l0.length : Int) < (l0.length : Int)) = false := decide_eq_false (by omega)
      have hd2 : decide (l0.length < l0.length) = false := decide_eq_false (by omega)
      have HL0 := Aside0.mk (show Lacks D d (List.replicate l0.length none) by rw [← vAt_full]; exact HL.out)
      have HP0 := HP
      clear HP HL hd1 hd2
      go_wp2
      clear hgk hj hjl
      go_loopg [50] T.length (fun gk _ wr => ∃ (i kf : Nat) (v : List (Option Int)) (vc : Value) (D : DataW Unit), T.length - i ≤ gk ∧ i ≤ T.length ∧ Aside0 (v.length = l0.length) ∧ Aside0 (CI w wr bx bd be ba g m A c T i s.size base AD l0.length cD vc (v.map (·.getD 0)) l0.length D) ∧ Aside0 (Lacks D d v) ∧ Aside0 ((T.drop i).length ≤ kf ∧ caseN d s.size kf (decide (i = 0)) v (T.drop i) = parseCase d s.size T))
      case atStart => exact ⟨0, T.length, List.replicate l0.length none, _, D, by omega, Nat.zero_le _, ⟨by simp⟩, ⟨by rw [List.map_replicate]; exact HP0.out⟩, HL0, ⟨by simp, by unfold parseCase; rw [← HDD.out, List.length_map]; rfl⟩⟩
      case round =>
        clear HP0 HL0
        obtain ⟨i, kf, v, vc, D, hgk, hi, HVL, HP, HL, HE⟩ := hrel
        have r0 := (blk_cell HP.out.1 0).trans (show _ = some (Value.slice A (T.map toS).length c) from rfl)
        have r1 := (blk_cell HP.out.1 1).trans (show _ = some (Value.int .i64 (i : Int)) from rfl)
        by_cases hil : i < T.length
        · skip
          cases gk with
          | zero => omega
          | succ k1 =>
            have hd1 : decide ((i : Int) < (T.length : Int)) = true := decide_eq_true (by omega)
            have hd2 : decide (i < T.length) = true := decide_eq_true hil
            have HT := Aside0.mk HP.out.tk
            have LR := Aside0.mk (fun k hk => Kd.R_lt HP.out.cs k hk : ∀ k, vc.ownBlock = some k → k < wr.heap.size)
            obtain ⟨bz, hz1⟩ : ∃ bz, decide ((0 : Int) < (i : Int)) = bz := ⟨_, rfl⟩
            have hz2 : decide (0 < i) = bz := by rw [← hz1]; exact decide_eq_decide.2 (by omega)
            go_upto_if 61 with (fail)
            go_cut [] from 50 to 114 (fun wc => ∃ (pos : Nat), Aside0 (commaS s.size (decide (i = 0)) (T.drop i) = .ok (T.drop pos)) ∧ Aside0 (i ≤ pos ∧ pos ≤ T.length) ∧ Aside0 (CI w wc bx bd be ba g m A c T pos s.size base AD l0.length cD vc (v.map (·.getD 0)) l0.length D) ∧ Aside0 (∀ k, vc.ownBlock = some k → k < wc.heap.size))
            case first =>
              cases bz with
              | false =>
                have hi0 : i = 0 := by have := of_decide_eq_false hz2; omega
                go_wp2
                go_meet
                case rel => exact ⟨i, ⟨by unfold commaS; rw [decide_eq_true hi0]; rfl⟩, ⟨Nat.le_refl _, hi⟩, HP, LR⟩
              | true =>
                have hi0 : ¬ i = 0 := by have := of_decide_eq_true hz2; omega
                have hcs : commaS s.size (decide (i = 0)) (T.drop i) = (take 4 [44] s.size (T.drop i)).bind fun z => .ok z.2 := by unfold commaS; rw [decide_eq_false hi0]; rfl
                cases h0 : take 4 [44] s.size (T.drop i) with
                | error p =>
                  obtain ⟨e, a⟩ := p
                  have hq_ := e1 _ _ (case_err HE.out hil (p := (e, a)) (caseS_0 (by rw [hcs, h0]; rfl)))
                  subst hq_
                  have H0 := Aside0.mk h0
                  clear h0 hcs
                  go_wp2_with (go_at_call 34; refine (take_fail2 H0.out hi HT.out rfl rfl).mono ?_; rintro e_ w0 ⟨rfl, g_⟩; have G0 := Aside0.mk g_; clear g_)
                  exact HP.out.panic hst G0.out e a _ rfl rfl rfl rfl
                | ok p =>
                  obtain ⟨z0_, r⟩ := p
                  obtain ⟨rfl, hp0⟩ := take_next h0
                  have H0 := Aside0.mk h0
                  have HC := Aside0.mk (show commaS s.size (decide (i = 0)) (T.drop i) = .ok (T.drop (i + 1)) by rw [hcs, h0]; rfl)
                  clear h0 hcs
                  go_wp2_with (go_at_call 34; refine (take_good2 H0.out HT.out rfl rfl).mono ?_; rintro e_ w0 ⟨rfl, tk_, g_⟩; have TK0 := Aside0.mk tk_; have G0 := Aside0.mk g_; clear tk_ g_)
                  go_meet
                  case rel => exact ⟨i + 1, HC, ⟨Nat.le_succ _, hp0⟩, ⟨HP.out.took hst TK0.out G0.out⟩, ⟨fun k hk => Nat.lt_of_lt_of_le (LR.out k hk) G0.out.size⟩⟩
            case rest =>
              clear HP HT LR hz1 hz2 hd1 hd2 bz
              (try clear r0 r1)
              obtain ⟨pos, HC, HPO, HP, LR⟩ := hcut
              obtain ⟨hip, hp0⟩ := HPO.out
              clear HPO
              have HT := Aside0.mk HP.out.tk
              cases h1 : take 1 [] s.size (T.drop pos) with
              | error p =>
                obtain ⟨e, a⟩ := p
                have hq_ := e1 _ _ (case_err HE.out hil (p := (e, a)) (caseS_1 HC.out h1))
                subst hq_
                have H1 := Aside0.mk h1
                clear h1
                go_wp2_with (go_at_call 34; refine (take_fail2 H1.out hp0 HT.out rfl rfl).mono ?_; rintro e_ w1 ⟨rfl, g_⟩; have G1 := Aside0.mk g_; clear g_)
                exact HP.out.panic hst G1.out e a _ rfl rfl rfl rfl
              | ok p =>
                obtain ⟨t, r⟩ := p
                obtain ⟨rfl, hp1⟩ := take_next h1
                have H1 := Aside0.mk h1
                have htm := take_mem h1
                clear h1

                go_upto_region 19 with (first | (go_at_call 34; refine (take_good2 H1.out HT.out rfl rfl).mono ?_; rintro e_ w1 ⟨rfl, tk_, g_⟩; have TK1 := Aside0.mk tk_; have G1 := Aside0.mk g_; clear tk_ g_) | ((with_reducible refine gate_dst (N := 12) rfl ?_); (try (refine gate_guard (by rfl) ?_; dsimp only)); refine box_event ?hg (N := 12) ?hd (cs := #[.int .i64 0, .int .i64 0, .int .i64 0, .string (⟨#[]⟩ : ByteArray)]) (t := 77) ?hr ?_; (case hd => rfl); (case hg => rfl); (case hr => first | (go_simp; done) | (go_simp; rfl)); intro b9 hg_b9 w2 hbox hb; have BK_b9 := Aside0.mk hbox; have HB_b9 := Aside0.mk hb; have GE_b9 := Aside0.mk (Nat.le_of_eq hg_b9.symm); clear hbox hb hg_b9; have zb90 := (blk_cell BK_b9.out 0).trans (show _ = some (Value.int .i64 0) from rfl); have fb90 := blk_frozen BK_b9.out 0; have zb91 := (blk_cell BK_b9.out 1).trans (show _ = some (Value.int .i64 0) from rfl); have fb91 := blk_frozen BK_b9.out 1; have zb92 := (blk_cell BK_b9.out 2).trans (show _ = some (Value.int .i64 0) from rfl); have fb92 := blk_frozen BK_b9.out 2; have zb93 := (blk_cell BK_b9.out 3).trans (show _ = some (Value.string (⟨#[]⟩ : ByteArray)) from rfl); have fb93 := blk_frozen BK_b9.out 3))
                have hg1 := blk_lt HP.out.1
                have hm1 := HP.out.map.lt
                have L9 := Aside0.mk (show b9 ≠ g ∧ b9 ≠ m by have := GE_b9.out; have := G1.out.size; omega)
                have LB := Aside0.mk (fun k hk => Nat.lt_of_lt_of_le (LR.out k hk) (Nat.le_trans G1.out.size GE_b9.out) : ∀ k, vc.ownBlock = some k → k < b9)
                refine at_world (F := fun w' => CI w w' bx bd be ba g m A c T (pos + 1) s.size base AD l0.length cD vc (v.map (·.getD 0)) l0.length D ∧ w'.heap[b9]? = some (.cells (tokC t) 77 (0, 0))) ⟨(HP.out.took hst TK1.out G1.out).below (below_set (below_set (below_set (below_set HB_b9.out GE_b9.out) GE_b9.out) GE_b9.out) GE_b9.out), (blk_put (blk_put (blk_put (blk_put BK_b9.out 0 _ rfl) 1 _ rfl) 2 _ rfl) 3 _ rfl)⟩ ?_
                clear TK1 G1 BK_b9 HB_b9 GE_b9 zb90 fb90 zb91 fb91 zb92 fb92 zb93 fb93 hg1 hm1 HP HT LR
                (try clear r0 r1)
                rintro w9 ⟨p_, k_⟩
                have HP := Aside0.mk p_
                have BK := Aside0.mk k_
                clear p_ k_
                cases hq : FcP.index d t.2.text with
                | none =>
                  have hq_ := e1 _ _ (case_err HE.out hil (p := (7, t.1)) (caseS_2 HC.out H1.out hq))
                  subst hq_
                  have HIX := Aside0.mk (idx_none HDD.out hq)
                  clear hq
                  have x0 := (blk_cell HP.out.bx 0).trans (show _ = some (Value.slice AD l0.length cD) from rfl)
                  have k0 := (blk_cell BK.out 0).trans (show _ = some (Value.int .i64 (t.2.kind : Int)) from rfl)
                  have k1 := (blk_cell BK.out 1).trans (show _ = some (Value.int .i64 (t.1 : Int)) from rfl)
                  have k2 := (blk_cell BK.out 2).trans (show _ = some (Value.int .i64 (t.2.n : Int)) from rfl)
                  have k3 := (blk_cell BK.out 3).trans (show _ = some (Value.string (bs t.2.text)) from rfl)
                  go_upto_region 20 with (go_at_call 36; refine (index_at AD cD l0 (bs t.2.text) (-1) _ (Kd.C_below HCD.out HP.out.wb) (by have := HN60.out; omega) HIX.out).mono ?_; rintro e_ wi ⟨rfl, bi_⟩; have Bi := Aside0.mk bi_; clear bi_)
                  refine at_world (F := fun w' => CI w w' bx bd be ba g m A c T (pos + 1) s.size base AD l0.length cD vc (v.map (·.getD 0)) l0.length D ∧ w'.heap[b9]? = some (.cells (tokC t) 77 (0, 0))) ⟨HP.out.below Bi.out, blk_below BK.out Bi.out⟩ ?_
                  clear x0 k0 k1 k2 k3 HP BK Bi HIX
                  rintro w10 ⟨p_, k_⟩
                  have HP := Aside0.mk p_
                  have BK := Aside0.mk k_
                  clear p_ k_
                  have k0 := (blk_cell BK.out 0).trans (show _ = some (Value.int .i64 (t.2.kind : Int)) from rfl)
                  have k1 := (blk_cell BK.out 1).trans (show _ = some (Value.int .i64 (t.1 : Int)) from rfl)
                  have k2 := (blk_cell BK.out 2).trans (show _ = some (Value.int .i64 (t.2.n : Int)) from rfl)
                  have k3 := (blk_cell BK.out 3).trans (show _ = some (Value.string (bs t.2.text)) from rfl)
                  go_wp2_with (go_at_call 35; refine (check_bad' t _ _).mono ?_; rintro e_ w11_ ⟨rfl, b_⟩; have B11 := Aside0.mk b_; clear b_)
                  exact HP.out.panic hst (grown_of_below B11.out _) 7 t.1 _ rfl rfl rfl rfl
                | some q =>
                  have HQI := Aside0.mk hq
                  have HIX := Aside0.mk (idx_some HDD.out hq).1
                  have HQ := Aside0.mk (idx_some HDD.out hq).2
                  obtain ⟨f, hf1, hf2⟩ := idx_name hq
                  have HF := Aside0.mk (And.intro hf1 hf2)
                  clear hq hf1 hf2
                  have x0 := (blk_cell HP.out.bx 0).trans (show _ = some (Value.slice AD l0.length cD) from rfl)
                  have k0 := (blk_cell BK.out 0).trans (show _ = some (Value.int .i64 (t.2.kind : Int)) from rfl)
                  have k1 := (blk_cell BK.out 1).trans (show _ = some (Value.int .i64 (t.1 : Int)) from rfl)
                  have k2 := (blk_cell BK.out 2).trans (show _ = some (Value.int .i64 (t.2.n : Int)) from rfl)
                  have k3 := (blk_cell BK.out 3).trans (show _ = some (Value.string (bs t.2.text)) from rfl)
                  go_upto_region 20 with (go_at_call 36; refine (index_at AD cD l0 (bs t.2.text) ((q : Int)) _ (Kd.C_below HCD.out HP.out.wb) (by have := HN60.out; omega) HIX.out).mono ?_; rintro e_ wi ⟨rfl, bi_⟩; have Bi := Aside0.mk bi_; clear bi_)
                  refine at_world (F := fun w' => CI w w' bx bd be ba g m A c T (pos + 1) s.size base AD l0.length cD vc (v.map (·.getD 0)) l0.length D ∧ w'.heap[b9]? = some (.cells (tokC t) 77 (0, 0))) ⟨HP.out.below Bi.out, blk_below BK.out Bi.out⟩ ?_
                  clear x0 k0 k1 k2 k3 HP BK Bi HIX
                  rintro w10 ⟨p_, k_⟩
                  have HP := Aside0.mk p_
                  have BK := Aside0.mk k_
                  clear p_ k_
                  have k0 := (blk_cell BK.out 0).trans (show _ = some (Value.int .i64 (t.2.kind : Int)) from rfl)
                  have k1 := (blk_cell BK.out 1).trans (show _ = some (Value.int .i64 (t.1 : Int)) from rfl)
                  have k2 := (blk_cell BK.out 2).trans (show _ = some (Value.int .i64 (t.2.n : Int)) from rfl)
                  have k3 := (blk_cell BK.out 3).trans (show _ = some (Value.string (bs t.2.text)) from rfl)
                  have hneg : decide ((q : Int) < 0) = false := decide_eq_false (by omega)
                  go_upto_region 21 with (go_at_call 35; refine (check_ok' t _ _).mono ?_; rintro e_ w11_ ⟨rfl, b_⟩; have B11 := Aside0.mk b_; clear b_)
                  refine at_world (F := fun w' => CI w w' bx bd be ba g m A c T (pos + 1) s.size base AD l0.length cD vc (v.map (·.getD 0)) l0.length D ∧ w'.heap[b9]? = some (.cells (tokC t) 77 (0, 0))) ⟨HP.out.below B11.out, blk_below BK.out B11.out⟩ ?_
                  clear k0 k1 k2 k3 HP BK B11
                  rintro w11 ⟨p_, k_⟩
                  have HP := Aside0.mk p_
                  have BK := Aside0.mk k_
                  clear p_ k_
                  clear hneg
                  by_cases hs : (v.getD q none).isSome = true
                  · skip
                    have hq_ := e1 _ _ (case_err HE.out hil (p := (9, t.1)) (caseS_3 HC.out H1.out HQI.out hs))
                    subst hq_
                    have HS := Aside0.mk (show (v.getD q none).isNone = false by cases hv_ : v.getD q none with | none => rw [hv_] at hs; cases hs | some z => rfl)
                    clear hs
                    have k0 := (blk_cell BK.out 0).trans (show _ = some (Value.int .i64 (t.2.kind : Int)) from rfl)
                    have k1 := (blk_cell BK.out 1).trans (show _ = some (Value.int .i64 (t.1 : Int)) from rfl)
                    have k2 := (blk_cell BK.out 2).trans (show _ = some (Value.int .i64 (t.2.n : Int)) from rfl)
                    have k3 := (blk_cell BK.out 3).trans (show _ = some (Value.string (bs t.2.text)) from rfl)
                    have hlk := HL.out.look HP.out.map (x := bs t.2.text) HF.out.1 (by rw [bs_size]; exact hsz t htm) ((byts_bs t.2.text).trans HF.out.2.symm) HS.out
                    go_wp2_with (go_at_call 35; refine (check_bad' t _ _).mono ?_; rintro e_ w11_ ⟨rfl, b_⟩; have B11 := Aside0.mk b_; clear b_)
                    exact HP.out.panic hst (grown_of_below B11.out _) 9 t.1 _ rfl rfl rfl rfl
                  · have HNS := Aside0.mk hs
                    have HS := Aside0.mk (show (v.getD q none).isNone = true by cases hv_ : v.getD q none with | none => rfl | some z => rw [hv_] at hs; exact absurd rfl hs)
                    clear hs
                    have k0 := (blk_cell BK.out 0).trans (show _ = some (Value.int .i64 (t.2.kind : Int)) from rfl)
                    have k1 := (blk_cell BK.out 1).trans (show _ = some (Value.int .i64 (t.1 : Int)) from rfl)
                    have k2 := (blk_cell BK.out 2).trans (show _ = some (Value.int .i64 (t.2.n : Int)) from rfl)
                    have k3 := (blk_cell BK.out 3).trans (show _ = some (Value.string (bs t.2.text)) from rfl)
                    have hlk := HL.out.look HP.out.map (x := bs t.2.text) HF.out.1 (by rw [bs_size]; exact hsz t htm) ((byts_bs t.2.text).trans HF.out.2.symm) HS.out
                    go_upto_region 22 with (go_at_call 35; refine (check_ok' t _ _).mono ?_; rintro e_ w11_ ⟨rfl, b_⟩; have B11 := Aside0.mk b_; clear b_)
                    refine at_world (F := fun w' => CI w w' bx bd be ba g m A c T (pos + 1) s.size base AD l0.length cD vc (v.map (·.getD 0)) l0.length D ∧ w'.heap[b9]? = some (.cells (tokC t) 77 (0, 0))) ⟨HP.out.below B11.out, blk_below BK.out B11.out⟩ ?_
                    clear k0 k1 k2 k3 HP BK B11
                    rintro w11 ⟨p_, k_⟩
                    have HP := Aside0.mk p_
                    have BK := Aside0.mk k_
                    clear p_ k_
                    clear hlk
                    cases h2 : take 4 [61] s.size (T.drop (pos + 1)) with
                    | error p =>
                      obtain ⟨e, a⟩ := p
                      have hq_ := e1 _ _ (case_err HE.out hil (p := (e, a)) (caseS_4 HC.out H1.out HQI.out HNS.out h2))
                      subst hq_
                      have H2 := Aside0.mk h2
                      clear h2
                      have HT := Aside0.mk HP.out.tk
                      go_wp2_with (go_at_call 34; refine (take_fail2 H2.out hp1 HT.out rfl rfl).mono ?_; rintro e_ w12_ ⟨rfl, g_⟩; have G2 := Aside0.mk g_; clear g_)
                      exact HP.out.panic hst G2.out e a _ rfl rfl rfl rfl
                    | ok p =>
                      obtain ⟨z_, r⟩ := p
                      obtain ⟨rfl, hp2⟩ := take_next h2
                      have H2 := Aside0.mk h2
                      clear h2
                      have HT := Aside0.mk HP.out.tk
                      go_upto_region 23 with (go_at_call 34; refine (take_good2 H2.out HT.out rfl rfl).mono ?_; rintro e_ w12_ ⟨rfl, tk_, g_⟩; have TK2 := Aside0.mk tk_; have G2 := Aside0.mk g_; clear tk_ g_)
                      refine at_world (F := fun w' => CI w w' bx bd be ba g m A c T (pos + 2) s.size base AD l0.length cD vc (v.map (·.getD 0)) l0.length D ∧ w'.heap[b9]? = some (.cells (tokC t) 77 (0, 0))) ⟨HP.out.took hst TK2.out G2.out, blk_grown BK.out G2.out (fun e => L9.out.1 (Option.some.inj e))⟩ ?_
                      clear HP BK HT TK2 G2
                      rintro w12 ⟨p_, k_⟩
                      have HP := Aside0.mk p_
                      have BK := Aside0.mk k_
                      clear p_ k_
                      cases h3 : take 2 [] s.size (T.drop (pos + 2)) with
                      | error p =>
                        obtain ⟨e, a⟩ := p
                        have hq_ := e1 _ _ (case_err HE.out hil (p := (e, a)) (caseS_5 HC.out H1.out HQI.out HNS.out H2.out h3))
                        subst hq_
                        have H3 := Aside0.mk h3
                        clear h3
                        have HT := Aside0.mk HP.out.tk
                        go_wp2_with (go_at_call 34; refine (take_fail2 H3.out hp2 HT.out rfl rfl).mono ?_; rintro e_ w13_ ⟨rfl, g_⟩; have G3 := Aside0.mk g_; clear g_)
                        exact HP.out.panic hst G3.out e a _ rfl rfl rfl rfl
                      | ok p =>
                        obtain ⟨n, r⟩ := p
                        obtain ⟨rfl, hp3⟩ := take_next h3
                        have H3 := Aside0.mk h3
                        clear h3
                        obtain ⟨lo, hlo⟩ : ∃ lo, (rd_T42 l0 (q : Int)).f2 = lo := ⟨_, rfl⟩
                        obtain ⟨hi_, hhi⟩ : ∃ hi_, (rd_T42 l0 (q : Int)).f3 = hi_ := ⟨_, rfl⟩
                        have HLO := Aside0.mk (And.intro hlo hhi)
                        have hgd : (d.getD q ⟨[], 0, 0, 0⟩).lo = lo ∧ (d.getD q ⟨[], 0, 0, 0⟩).hi = hi_ := by rw [← HDD.out, (fact_at l0 q HQ.out).1, ← hlo, ← hhi]; exact ⟨rfl, rfl⟩
                        have HGD := Aside0.mk hgd
                        clear hlo hhi hgd
                        have HT := Aside0.mk HP.out.tk
                        go_upto_region 24 with (first | (go_at_call 34; refine (take_good2 H3.out HT.out rfl rfl).mono ?_; rintro e_ w13_ ⟨rfl, tk_, g_⟩; have TK3 := Aside0.mk tk_; have G3 := Aside0.mk g_; clear tk_ g_) | ((with_reducible refine gate_dst (N := 14) rfl ?_); (try (refine gate_guard (by rfl) ?_; dsimp only)); refine box_event ?hg (N := 14) ?hd (cs := #[.int .i64 0, .int .i64 0, .int .i64 0, .string (⟨#[]⟩ : ByteArray)]) (t := 77) ?hr ?_; (case hd => rfl); (case hg => rfl); (case hr => first | (go_simp; done) | (go_simp; rfl)); intro b10 hg_b10 w14 hbox hb; have BK_b10 := Aside0.mk hbox; have HB_b10 := Aside0.mk hb; have GE_b10 := Aside0.mk (Nat.le_of_eq hg_b10.symm); clear hbox hb hg_b10; have zb100 := (blk_cell BK_b10.out 0).trans (show _ = some (Value.int .i64 0) from rfl); have fb100 := blk_frozen BK_b10.out 0; have zb101 := (blk_cell BK_b10.out 1).trans (show _ = some (Value.int .i64 0) from rfl); have fb101 := blk_frozen BK_b10.out 1; have zb102 := (blk_cell BK_b10.out 2).trans (show _ = some (Value.int .i64 0) from rfl); have fb102 := blk_frozen BK_b10.out 2; have zb103 := (blk_cell BK_b10.out 3).trans (show _ = some (Value.string (⟨#[]⟩ : ByteArray)) from rfl); have fb103 := blk_frozen BK_b10.out 3))
                        refine at_world (F := fun w' => CI w w' bx bd be ba g m A c T (pos + 3) s.size base AD l0.length cD vc (v.map (·.getD 0)) l0.length D ∧ w'.heap[b9]? = some (.cells (tokC t) 77 (0, 0)) ∧ w'.heap[b10]? = some (.cells (tokC n) 77 (0, 0))) ⟨(HP.out.took hst TK3.out G3.out).below (below_set (below_set (below_set (below_set HB_b10.out GE_b10.out) GE_b10.out) GE_b10.out) GE_b10.out), blk_below (blk_grown BK.out G3.out (fun e => L9.out.1 (Option.some.inj e))) (below_set (below_set (below_set (below_set HB_b10.out GE_b10.out) GE_b10.out) GE_b10.out) GE_b10.out), (blk_put (blk_put (blk_put (blk_put BK_b10.out 0 _ rfl) 1 _ rfl) 2 _ rfl) 3 _ rfl)⟩ ?_
                        have L10 := Aside0.mk (fun k hk => Nat.lt_of_lt_of_le (Nat.lt_trans (LB.out k hk) (blk_lt BK.out)) (Nat.le_trans G3.out.size GE_b10.out) : ∀ k, vc.ownBlock = some k → k < b10)
                        clear HP BK HT TK3 G3 BK_b10 HB_b10 GE_b10 zb100 fb100 zb101 fb101 zb102 fb102 zb103 fb103
                        rintro w15 ⟨p_, k_, j_⟩
                        have HP := Aside0.mk p_
                        have BK := Aside0.mk k_
                        have BL := Aside0.mk j_
                        clear p_ k_ j_
                        by_cases hl : (n.2.n : Int) < lo
                        · skip
                          have hq_ := e1 _ _ (case_err HE.out hil (p := (10, n.1)) (caseS_6 HC.out H1.out HQI.out HNS.out H2.out H3.out (.inl (by rw [HGD.out.1]; exact hl))))
                          subst hq_
                          have dl : decide ((n.2.n : Int) < lo) = true := decide_eq_true hl
                          clear hl
                          obtain ⟨ad, e0_, hx0, hx1, hx2, hx3⟩ := at_T42 HCD.out (q : Int) (by omega) (by have := HQ.out; omega)
                          clear hx0 hx1
                          simp only [Int.toNat_natCast] at hx2 hx3
                          subst e0_
                          replace hx2 := (HP.out.wb.cell (World.block_lt_of_cell? w _ hx2)).trans hx2
                          replace hx3 := (HP.out.wb.cell (World.block_lt_of_cell? w _ hx3)).trans hx3
                          rw [HLO.out.1] at hx2
                          rw [HLO.out.2] at hx3
                          have p1 := eq_true (show (0 : Int) ≤ (q : Int) by omega)
                          have q1 := eq_true (show (q : Int) < (l0.length : Int) by have := HQ.out; omega)
                          have q2 := eq_true (show q < l0.length from HQ.out)
                          have j0 := (blk_cell BL.out 0).trans (show _ = some (Value.int .i64 (n.2.kind : Int)) from rfl)
                          have j1 := (blk_cell BL.out 1).trans (show _ = some (Value.int .i64 (n.1 : Int)) from rfl)
                          have j2 := (blk_cell BL.out 2).trans (show _ = some (Value.int .i64 (n.2.n : Int)) from rfl)
                          have j3 := (blk_cell BL.out 3).trans (show _ = some (Value.string (bs n.2.text)) from rfl)
                          have x0 := (blk_cell HP.out.bx 0).trans (show _ = some (Value.slice (some ad) l0.length cD) from rfl)
                          refine start_ (n := 22) (S := fun w' => w'.cell? ⟨b10, 0, none⟩ = some (.int .i64 (n.2.kind : Int)) ∧ w'.cell? ⟨b10, 1, none⟩ = some (.int .i64 (n.1 : Int)) ∧ w'.cell? ⟨b10, 2, none⟩ = some (.int .i64 (n.2.n : Int)) ∧ w'.cell? ⟨b10, 3, none⟩ = some (.string (bs n.2.text)) ∧ w'.cell? ⟨bx, 0, none⟩ = some (.slice (some ad) l0.length cD) ∧ w'.cell? ⟨(ad.add (q * 4)).block, (ad.add (q * 4)).off + 2, none⟩ = some (.int .i64 lo) ∧ w'.cell? ⟨(ad.add (q * 4)).block, (ad.add (q * 4)).off + 3, none⟩ = some (.int .i64 hi_)) (ds := [21]) #[false, false, false, false, false, false, false, false, false, false, false, false, false, false, false, false, false, false, false, false, false, false] (by kernel_rfl) rfl rfl ⟨j0, j1, j2, j3, x0, hx2, hx3⟩ (fun hHeld => ?_)
                          obtain ⟨wd, hwd⟩ : ∃ wd, w15.drew = wd := ⟨_, rfl⟩
                          have HPd := Aside0.mk (show CI w wd bx bd be ba g m A c T (pos + 3) s.size base (some ad) l0.length cD vc (v.map (·.getD 0)) l0.length D by rw [← hwd]; exact HP.out.below (below_drew1 (Below.refl _ _)))
                          have BKd := Aside0.mk (show wd.heap[b9]? = some (.cells (tokC t) 77 (0, 0)) by rw [← hwd]; exact blk_drew BK.out)
                          have BLd := Aside0.mk (show wd.heap[b10]? = some (.cells (tokC n) 77 (0, 0)) by rw [← hwd]; exact blk_drew BL.out)
                          rw [hwd] at hHeld ⊢
                          clear hwd j0 j1 j2 j3 x0 hx2 hx3 HP BK BL
                          refine pure_ (i := 0) (N := some 85) (v := ?_) (a' := ?_) #[true, false, false, false, false, false, false, false, false, false, false, false, false, false, false, false, false, false, false, false, false, false] rfl rfl (by kernel_rfl) (fun c_ a_ w_ h_ => panic_put15 85 _ (by decide) c_ a_ w_ h_) (Or.inl ⟨by rfl, ?_⟩) ?_ ?_
                          rotate_left
                          · intro w'
                            go_simp
                            with_reducible rfl
                          rotate_left
                          · simp only [Act.put, List.setIfInBounds_toArray, List.set_cons_zero, List.set_cons_succ, i64_w, i32_w]
                            rfl
                          refine take_ (i := 1) (N := some 86) (v := ?_) (a' := ?_) #[true, true, false, false, false, false, false, false, false, false, false, false, false, false, false, false, false, false, false, false, false, false] rfl rfl (by kernel_rfl) (fun c_ a_ w_ h_ => panic_put15 86 _ (by decide) c_ a_ w_ h_) (Or.inl ⟨by rfl, ?_⟩) hHeld ?_ ?_
                          rotate_left
                          · rintro w' ⟨s0, s1, s2, s3, s4, s5, s6⟩
                            go_simp
                            with_reducible rfl
                          rotate_left
                          · simp only [Act.put, List.setIfInBounds_toArray, List.set_cons_zero, List.set_cons_succ, i64_w, i32_w]
                            rfl
                          refine pure_ (i := 2) (N := some 87) (v := ?_) (a' := ?_) #[true, true, true, false, false, false, false, false, false, false, false, false, false, false, false, false, false, false, false, false, false, false] rfl rfl (by kernel_rfl) (fun c_ a_ w_ h_ => panic_put15 87 _ (by decide) c_ a_ w_ h_) (Or.inl ⟨by rfl, ?_⟩) ?_ ?_
                          rotate_left
                          · intro w'
                            go_simp
                            with_reducible rfl
                          rotate_left
                          · simp only [Act.put, List.setIfInBounds_toArray, List.set_cons_zero, List.set_cons_succ, i64_w, i32_w]
                            rfl
                          refine take_ (i := 3) (N := some 88) (v := ?_) (a' := ?_) #[true, true, true, true, false, false, false, false, false, false, false, false, false, false, false, false, false, false, false, false, false, false] rfl rfl (by kernel_rfl) (fun c_ a_ w_ h_ => panic_put15 88 _ (by decide) c_ a_ w_ h_) (Or.inl ⟨by rfl, ?_⟩) hHeld ?_ ?_
                          rotate_left
                          · rintro w' ⟨s0, s1, s2, s3, s4, s5, s6⟩
                            go_simp
                            with_reducible rfl
                          rotate_left
                          · simp only [Act.put, List.setIfInBounds_toArray, List.set_cons_zero, List.set_cons_succ, i64_w, i32_w]
                            rfl
                          refine pure_ (i := 4) (N := some 89) (v := ?_) (a' := ?_) #[true, true, true, true, true, false, false, false, false, false, false, false, false, false, false, false, false, false, false, false, false, false] rfl rfl (by kernel_rfl) (fun c_ a_ w_ h_ => panic_put15 89 _ (by decide) c_ a_ w_ h_) (Or.inl ⟨by rfl, ?_⟩) ?_ ?_
                          rotate_left
                          · intro w'
                            go_simp
                            with_reducible rfl
                          rotate_left
                          · simp only [Act.put, List.setIfInBounds_toArray, List.set_cons_zero, List.set_cons_succ, i64_w, i32_w]
                            rfl
                          refine pure_ (i := 5) (N := some 90) (v := ?_) (a' := ?_) #[true, true, true, true, true, true, false, false, false, false, false, false, false, false, false, false, false, false, false, false, false, false] rfl rfl (by kernel_rfl) (fun c_ a_ w_ h_ => panic_put15 90 _ (by decide) c_ a_ w_ h_) (Or.inl ⟨by rfl, ?_⟩) ?_ ?_
                          rotate_left
                          · intro w'
                            go_simp
                            with_reducible rfl
                          rotate_left
                          · simp only [Act.put, List.setIfInBounds_toArray, List.set_cons_zero, List.set_cons_succ, i64_w, i32_w]
                            rfl
                          refine pure_ (i := 6) (N := some 91) (v := ?_) (a' := ?_) #[true, true, true, true, true, true, true, false, false, false, false, false, false, false, false, false, false, false, false, false, false, false] rfl rfl (by kernel_rfl) (fun c_ a_ w_ h_ => panic_put15 91 _ (by decide) c_ a_ w_ h_) (Or.inl ⟨by rfl, ?_⟩) ?_ ?_
                          rotate_left
                          · intro w'
                            go_simp
                            with_reducible rfl
                          rotate_left
                          · simp only [Act.put, List.setIfInBounds_toArray, List.set_cons_zero, List.set_cons_succ, i64_w, i32_w]
                            rfl
                          refine take_ (i := 7) (N := some 92) (v := ?_) (a' := ?_) #[true, true, true, true, true, true, true, true, false, false, false, false, false, false, false, false, false, false, false, false, false, false] rfl rfl (by kernel_rfl) (fun c_ a_ w_ h_ => panic_put15 92 _ (by decide) c_ a_ w_ h_) (Or.inl ⟨by rfl, ?_⟩) hHeld ?_ ?_
                          rotate_left
                          · rintro w' ⟨s0, s1, s2, s3, s4, s5, s6⟩
                            go_simp
                            with_reducible rfl
                          rotate_left
                          · simp only [Act.put, List.setIfInBounds_toArray, List.set_cons_zero, List.set_cons_succ, i64_w, i32_w]
                            rfl
                          refine pure_ (i := 8) (N := some 93) (v := ?_) (a' := ?_) #[true, true, true, true, true, true, true, true, true, false, false, false, false, false, false, false, false, false, false, false, false, false] rfl rfl (by kernel_rfl) (fun c_ a_ w_ h_ => panic_put15 93 _ (by decide) c_ a_ w_ h_) (Or.inl ⟨by rfl, ?_⟩) ?_ ?_
                          rotate_left
                          · intro w'
                            go_simp
                            with_reducible rfl
                          rotate_left
                          · simp only [Act.put, List.setIfInBounds_toArray, List.set_cons_zero, List.set_cons_succ, i64_w, i32_w]
                            rfl
                          refine pure_ (i := 9) (N := some 94) (v := ?_) (a' := ?_) #[true, true, true, true, true, true, true, true, true, true, false, false, false, false, false, false, false, false, false, false, false, false] rfl rfl (by kernel_rfl) (fun c_ a_ w_ h_ => panic_put15 94 _ (by decide) c_ a_ w_ h_) (Or.inl ⟨by rfl, ?_⟩) ?_ ?_
                          rotate_left
                          · intro w'
                            go_simp
                            with_reducible rfl
                          rotate_left
                          · simp only [Act.put, List.setIfInBounds_toArray, List.set_cons_zero, List.set_cons_succ, i64_w, i32_w]
                            rfl
                          refine pure_ (i := 10) (N := some 95) (v := undef) #[true, true, true, true, true, true, true, true, true, true, true, false, false, false, false, false, false, false, false, false, false, false] rfl rfl (by kernel_rfl) (fun c_ a_ w_ h_ => panic_put15 95 _ (by decide) c_ a_ w_ h_) (Or.inr ⟨by rfl, rfl⟩) rfl ?_
                          refine norm_ (a' := ?_) ?_ ?_
                          rotate_left
                          · show Act.put _ (some 95) _ = _
                            simp only [Act.put, List.setIfInBounds_toArray, List.set_cons_zero, List.set_cons_succ, i64_w, i32_w]
                            rfl
                          refine take_ (i := 11) (N := some 96) (v := undef) #[true, true, true, true, true, true, true, true, true, true, true, true, false, false, false, false, false, false, false, false, false, false] rfl rfl (by kernel_rfl) (fun c_ a_ w_ h_ => panic_put15 96 _ (by decide) c_ a_ w_ h_) (Or.inr ⟨by rfl, rfl⟩) hHeld rfl ?_
                          refine norm_ (a' := ?_) ?_ ?_
                          rotate_left
                          · show Act.put _ (some 96) _ = _
                            simp only [Act.put, List.setIfInBounds_toArray, List.set_cons_zero, List.set_cons_succ, i64_w, i32_w]
                            rfl
                          refine pure_ (i := 12) (N := some 97) (v := undef) #[true, true, true, true, true, true, true, true, true, true, true, true, true, false, false, false, false, false, false, false, false, false] rfl rfl (by kernel_rfl) (fun c_ a_ w_ h_ => panic_put15 97 _ (by decide) c_ a_ w_ h_) (Or.inr ⟨by rfl, rfl⟩) rfl ?_
                          refine norm_ (a' := ?_) ?_ ?_
                          rotate_left
                          · show Act.put _ (some 97) _ = _
                            simp only [Act.put, List.setIfInBounds_toArray, List.set_cons_zero, List.set_cons_succ, i64_w, i32_w]
                            rfl
                          refine take_ (i := 13) (N := some 98) (v := undef) #[true, true, true, true, true, true, true, true, true, true, true, true, true, true, false, false, false, false, false, false, false, false] rfl rfl (by kernel_rfl) (fun c_ a_ w_ h_ => panic_put15 98 _ (by decide) c_ a_ w_ h_) (Or.inr ⟨by rfl, rfl⟩) hHeld rfl ?_
                          refine norm_ (a' := ?_) ?_ ?_
                          rotate_left
                          · show Act.put _ (some 98) _ = _
                            simp only [Act.put, List.setIfInBounds_toArray, List.set_cons_zero, List.set_cons_succ, i64_w, i32_w]
                            rfl
                          refine pure_ (i := 14) (N := some 99) (v := undef) #[true, true, true, true, true, true, true, true, true, true, true, true, true, true, true, false, false, false, false, false, false, false] rfl rfl (by kernel_rfl) (fun c_ a_ w_ h_ => panic_put15 99 _ (by decide) c_ a_ w_ h_) (Or.inr ⟨by rfl, rfl⟩) rfl ?_
                          refine norm_ (a' := ?_) ?_ ?_
                          rotate_left
                          · show Act.put _ (some 99) _ = _
                            simp only [Act.put, List.setIfInBounds_toArray, List.set_cons_zero, List.set_cons_succ, i64_w, i32_w]
                            rfl
                          refine pure_ (i := 15) (N := some 100) (v := undef) #[true, true, true, true, true, true, true, true, true, true, true, true, true, true, true, true, false, false, false, false, false, false] rfl rfl (by kernel_rfl) (fun c_ a_ w_ h_ => panic_put15 100 _ (by decide) c_ a_ w_ h_) (Or.inr ⟨by rfl, rfl⟩) rfl ?_
                          refine norm_ (a' := ?_) ?_ ?_
                          rotate_left
                          · show Act.put _ (some 100) _ = _
                            simp only [Act.put, List.setIfInBounds_toArray, List.set_cons_zero, List.set_cons_succ, i64_w, i32_w]
                            rfl
                          refine pure_ (i := 16) (N := some 101) (v := undef) #[true, true, true, true, true, true, true, true, true, true, true, true, true, true, true, true, true, false, false, false, false, false] rfl rfl (by kernel_rfl) (fun c_ a_ w_ h_ => panic_put15 101 _ (by decide) c_ a_ w_ h_) (Or.inr ⟨by rfl, rfl⟩) rfl ?_
                          refine norm_ (a' := ?_) ?_ ?_
                          rotate_left
                          · show Act.put _ (some 101) _ = _
                            simp only [Act.put, List.setIfInBounds_toArray, List.set_cons_zero, List.set_cons_succ, i64_w, i32_w]
                            rfl
                          refine take_ (i := 17) (N := some 102) (v := undef) #[true, true, true, true, true, true, true, true, true, true, true, true, true, true, true, true, true, true, false, false, false, false] rfl rfl (by kernel_rfl) (fun c_ a_ w_ h_ => panic_put15 102 _ (by decide) c_ a_ w_ h_) (Or.inr ⟨by rfl, rfl⟩) hHeld rfl ?_
                          refine norm_ (a' := ?_) ?_ ?_
                          rotate_left
                          · show Act.put _ (some 102) _ = _
                            simp only [Act.put, List.setIfInBounds_toArray, List.set_cons_zero, List.set_cons_succ, i64_w, i32_w]
                            rfl
                          refine pure_ (i := 18) (N := some 103) (v := undef) #[true, true, true, true, true, true, true, true, true, true, true, true, true, true, true, true, true, true, true, false, false, false] rfl rfl (by kernel_rfl) (fun c_ a_ w_ h_ => panic_put15 103 _ (by decide) c_ a_ w_ h_) (Or.inr ⟨by rfl, rfl⟩) rfl ?_
                          refine norm_ (a' := ?_) ?_ ?_
                          rotate_left
                          · show Act.put _ (some 103) _ = _
                            simp only [Act.put, List.setIfInBounds_toArray, List.set_cons_zero, List.set_cons_succ, i64_w, i32_w]
                            rfl
                          refine pure_ (i := 19) (N := some 104) (v := ?_) (a' := ?_) #[true, true, true, true, true, true, true, true, true, true, true, true, true, true, true, true, true, true, true, true, false, false] rfl rfl (by kernel_rfl) (fun c_ a_ w_ h_ => panic_put15 104 _ (by decide) c_ a_ w_ h_) (Or.inl ⟨by rfl, ?_⟩) ?_ ?_
                          rotate_left
                          · intro w'
                            go_simp
                            with_reducible rfl
                          rotate_left
                          · simp only [Act.put, List.setIfInBounds_toArray, List.set_cons_zero, List.set_cons_succ, i64_w, i32_w]
                            rfl
                          refine take_ (i := 20) (N := some 105) (v := ?_) (a' := ?_) #[true, true, true, true, true, true, true, true, true, true, true, true, true, true, true, true, true, true, true, true, true, false] rfl rfl (by kernel_rfl) (fun c_ a_ w_ h_ => panic_put15 105 _ (by decide) c_ a_ w_ h_) (Or.inl ⟨by rfl, ?_⟩) hHeld ?_ ?_
                          rotate_left
                          · rintro w' ⟨s0, s1, s2, s3, s4, s5, s6⟩
                            go_simp
                            with_reducible rfl
                          rotate_left
                          · simp only [Act.put, List.setIfInBounds_toArray, List.set_cons_zero, List.set_cons_succ, i64_w, i32_w]
                            rfl
                          refine last_ (i := 21) (N := some 106) #[true, true, true, true, true, true, true, true, true, true, true, true, true, true, true, true, true, true, true, true, true, true] rfl rfl (by kernel_rfl) (by decide) (fun K hK => ?_)
                          refine goesP_ Tryd.func35 (by kernel_rfl) rfl #[.bool true, .int .i64 10, .agg #[.int .i64 (n.2.kind : Int), .int .i64 (n.1 : Int), .int .i64 (n.2.n : Int), .string (bs n.2.text)]] (by rfl) rfl (by (try simp only [List.map_toArray, List.map_cons, List.map_nil]); first | done | rfl | simp) ?_
                          refine (check_bad' n 10 wd).mono ?_
                          rintro e_ wj ⟨rfl, bj⟩
                          exact ⟨_, rfl, HPd.out.panic hst (grown_of_below bj _) 10 n.1 _ rfl rfl rfl rfl⟩
                        · have HNL := Aside0.mk hl
                          have dl : decide ((n.2.n : Int) < lo) = false := decide_eq_false hl
                          clear hl
                          obtain ⟨bh, dh⟩ : ∃ bh, decide (hi_ < (n.2.n : Int)) = bh := ⟨_, rfl⟩
                          obtain ⟨ad, e0_, hx0, hx1, hx2, hx3⟩ := at_T42 HCD.out (q : Int) (by omega) (by have := HQ.out; omega)
                          clear hx0 hx1
                          simp only [Int.toNat_natCast] at hx2 hx3
                          subst e0_
                          replace hx2 := (HP.out.wb.cell (World.block_lt_of_cell? w _ hx2)).trans hx2
                          replace hx3 := (HP.out.wb.cell (World.block_lt_of_cell? w _ hx3)).trans hx3
                          rw [HLO.out.1] at hx2
                          rw [HLO.out.2] at hx3
                          have p1 := eq_true (show (0 : Int) ≤ (q : Int) by omega)
                          have q1 := eq_true (show (q : Int) < (l0.length : Int) by have := HQ.out; omega)
                          have q2 := eq_true (show q < l0.length from HQ.out)
                          have j0 := (blk_cell BL.out 0).trans (show _ = some (Value.int .i64 (n.2.kind : Int)) from rfl)
                          have j1 := (blk_cell BL.out 1).trans (show _ = some (Value.int .i64 (n.1 : Int)) from rfl)
                          have j2 := (blk_cell BL.out 2).trans (show _ = some (Value.int .i64 (n.2.n : Int)) from rfl)
                          have j3 := (blk_cell BL.out 3).trans (show _ = some (Value.string (bs n.2.text)) from rfl)
                          have x0 := (blk_cell HP.out.bx 0).trans (show _ = some (Value.slice (some ad) l0.length cD) from rfl)
                          refine start_ (n := 22) (S := fun w' => w'.cell? ⟨b10, 0, none⟩ = some (.int .i64 (n.2.kind : Int)) ∧ w'.cell? ⟨b10, 1, none⟩ = some (.int .i64 (n.1 : Int)) ∧ w'.cell? ⟨b10, 2, none⟩ = some (.int .i64 (n.2.n : Int)) ∧ w'.cell? ⟨b10, 3, none⟩ = some (.string (bs n.2.text)) ∧ w'.cell? ⟨bx, 0, none⟩ = some (.slice (some ad) l0.length cD) ∧ w'.cell? ⟨(ad.add (q * 4)).block, (ad.add (q * 4)).off + 2, none⟩ = some (.int .i64 lo) ∧ w'.cell? ⟨(ad.add (q * 4)).block, (ad.add (q * 4)).off + 3, none⟩ = some (.int .i64 hi_)) (ds := [21]) #[false, false, false, false, false, false, false, false, false, false, false, false, false, false, false, false, false, false, false, false, false, false] (by kernel_rfl) rfl rfl ⟨j0, j1, j2, j3, x0, hx2, hx3⟩ (fun hHeld => ?_)
                          obtain ⟨wd, hwd⟩ : ∃ wd, w15.drew = wd := ⟨_, rfl⟩
                          have HPd := Aside0.mk (show CI w wd bx bd be ba g m A c T (pos + 3) s.size base (some ad) l0.length cD vc (v.map (·.getD 0)) l0.length D by rw [← hwd]; exact HP.out.below (below_drew1 (Below.refl _ _)))
                          have BKd := Aside0.mk (show wd.heap[b9]? = some (.cells (tokC t) 77 (0, 0)) by rw [← hwd]; exact blk_drew BK.out)
                          have BLd := Aside0.mk (show wd.heap[b10]? = some (.cells (tokC n) 77 (0, 0)) by rw [← hwd]; exact blk_drew BL.out)
                          rw [hwd] at hHeld ⊢
                          clear hwd j0 j1 j2 j3 x0 hx2 hx3 HP BK BL
                          refine pure_ (i := 0) (N := some 85) (v := ?_) (a' := ?_) #[true, false, false, false, false, false, false, false, false, false, false, false, false, false, false, false, false, false, false, false, false, false] rfl rfl (by kernel_rfl) (fun c_ a_ w_ h_ => panic_put15 85 _ (by decide) c_ a_ w_ h_) (Or.inl ⟨by rfl, ?_⟩) ?_ ?_
                          rotate_left
                          · intro w'
                            go_simp
                            with_reducible rfl
                          rotate_left
                          · simp only [Act.put, List.setIfInBounds_toArray, List.set_cons_zero, List.set_cons_succ, i64_w, i32_w]
                            rfl
                          refine take_ (i := 1) (N := some 86) (v := ?_) (a' := ?_) #[true, true, false, false, false, false, false, false, false, false, false, false, false, false, false, false, false, false, false, false, false, false] rfl rfl (by kernel_rfl) (fun c_ a_ w_ h_ => panic_put15 86 _ (by decide) c_ a_ w_ h_) (Or.inl ⟨by rfl, ?_⟩) hHeld ?_ ?_
                          rotate_left
                          · rintro w' ⟨s0, s1, s2, s3, s4, s5, s6⟩
                            go_simp
                            with_reducible rfl
                          rotate_left
                          · simp only [Act.put, List.setIfInBounds_toArray, List.set_cons_zero, List.set_cons_succ, i64_w, i32_w]
                            rfl
                          refine pure_ (i := 2) (N := some 87) (v := ?_) (a' := ?_) #[true, true, true, false, false, false, false, false, false, false, false, false, false, false, false, false, false, false, false, false, false, false] rfl rfl (by kernel_rfl) (fun c_ a_ w_ h_ => panic_put15 87 _ (by decide) c_ a_ w_ h_) (Or.inl ⟨by rfl, ?_⟩) ?_ ?_
                          rotate_left
                          · intro w'
                            go_simp
                            with_reducible rfl
                          rotate_left
                          · simp only [Act.put, List.setIfInBounds_toArray, List.set_cons_zero, List.set_cons_succ, i64_w, i32_w]
                            rfl
                          refine take_ (i := 3) (N := some 88) (v := ?_) (a' := ?_) #[true, true, true, true, false, false, false, false, false, false, false, false, false, false, false, false, false, false, false, false, false, false] rfl rfl (by kernel_rfl) (fun c_ a_ w_ h_ => panic_put15 88 _ (by decide) c_ a_ w_ h_) (Or.inl ⟨by rfl, ?_⟩) hHeld ?_ ?_
                          rotate_left
                          · rintro w' ⟨s0, s1, s2, s3, s4, s5, s6⟩
                            go_simp
                            with_reducible rfl
                          rotate_left
                          · simp only [Act.put, List.setIfInBounds_toArray, List.set_cons_zero, List.set_cons_succ, i64_w, i32_w]
                            rfl
                          refine pure_ (i := 4) (N := some 89) (v := ?_) (a' := ?_) #[true, true, true, true, true, false, false, false, false, false, false, false, false, false, false, false, false, false, false, false, false, false] rfl rfl (by kernel_rfl) (fun c_ a_ w_ h_ => panic_put15 89 _ (by decide) c_ a_ w_ h_) (Or.inl ⟨by rfl, ?_⟩) ?_ ?_
                          rotate_left
                          · intro w'
                            go_simp
                            with_reducible rfl
                          rotate_left
                          · simp only [Act.put, List.setIfInBounds_toArray, List.set_cons_zero, List.set_cons_succ, i64_w, i32_w]
                            rfl
                          refine pure_ (i := 5) (N := some 90) (v := ?_) (a' := ?_) #[true, true, true, true, true, true, false, false, false, false, false, false, false, false, false, false, false, false, false, false, false, false] rfl rfl (by kernel_rfl) (fun c_ a_ w_ h_ => panic_put15 90 _ (by decide) c_ a_ w_ h_) (Or.inl ⟨by rfl, ?_⟩) ?_ ?_
                          rotate_left
                          · intro w'
                            go_simp
                            with_reducible rfl
                          rotate_left
                          · simp only [Act.put, List.setIfInBounds_toArray, List.set_cons_zero, List.set_cons_succ, i64_w, i32_w]
                            rfl
                          refine pure_ (i := 6) (N := some 91) (v := ?_) (a' := ?_) #[true, true, true, true, true, true, true, false, false, false, false, false, false, false, false, false, false, false, false, false, false, false] rfl rfl (by kernel_rfl) (fun c_ a_ w_ h_ => panic_put15 91 _ (by decide) c_ a_ w_ h_) (Or.inl ⟨by rfl, ?_⟩) ?_ ?_
                          rotate_left
                          · intro w'
                            go_simp
                            with_reducible rfl
                          rotate_left
                          · simp only [Act.put, List.setIfInBounds_toArray, List.set_cons_zero, List.set_cons_succ, i64_w, i32_w]
                            rfl
                          refine take_ (i := 7) (N := some 92) (v := ?_) (a' := ?_) #[true, true, true, true, true, true, true, true, false, false, false, false, false, false, false, false, false, false, false, false, false, false] rfl rfl (by kernel_rfl) (fun c_ a_ w_ h_ => panic_put15 92 _ (by decide) c_ a_ w_ h_) (Or.inl ⟨by rfl, ?_⟩) hHeld ?_ ?_
                          rotate_left
                          · rintro w' ⟨s0, s1, s2, s3, s4, s5, s6⟩
                            go_simp
                            with_reducible rfl
                          rotate_left
                          · simp only [Act.put, List.setIfInBounds_toArray, List.set_cons_zero, List.set_cons_succ, i64_w, i32_w]
                            rfl
                          refine pure_ (i := 8) (N := some 93) (v := ?_) (a' := ?_) #[true, true, true, true, true, true, true, true, true, false, false, false, false, false, false, false, false, false, false, false, false, false] rfl rfl (by kernel_rfl) (fun c_ a_ w_ h_ => panic_put15 93 _ (by decide) c_ a_ w_ h_) (Or.inl ⟨by rfl, ?_⟩) ?_ ?_
                          rotate_left
                          · intro w'
                            go_simp
                            with_reducible rfl
                          rotate_left
                          · simp only [Act.put, List.setIfInBounds_toArray, List.set_cons_zero, List.set_cons_succ, i64_w, i32_w]
                            rfl
                          refine pure_ (i := 9) (N := some 94) (v := ?_) (a' := ?_) #[true, true, true, true, true, true, true, true, true, true, false, false, false, false, false, false, false, false, false, false, false, false] rfl rfl (by kernel_rfl) (fun c_ a_ w_ h_ => panic_put15 94 _ (by decide) c_ a_ w_ h_) (Or.inl ⟨by rfl, ?_⟩) ?_ ?_
                          rotate_left
                          · intro w'
                            go_simp
                            with_reducible rfl
                          rotate_left
                          · simp only [Act.put, List.setIfInBounds_toArray, List.set_cons_zero, List.set_cons_succ, i64_w, i32_w]
                            rfl
                          refine pure_ (i := 10) (N := some 95) (v := ?_) (a' := ?_) #[true, true, true, true, true, true, true, true, true, true, true, false, false, false, false, false, false, false, false, false, false, false] rfl rfl (by kernel_rfl) (fun c_ a_ w_ h_ => panic_put15 95 _ (by decide) c_ a_ w_ h_) (Or.inl ⟨by rfl, ?_⟩) ?_ ?_
                          rotate_left
                          · intro w'
                            go_simp
                            with_reducible rfl
                          rotate_left
                          · simp only [Act.put, List.setIfInBounds_toArray, List.set_cons_zero, List.set_cons_succ, i64_w, i32_w]
                            rfl
                          refine take_ (i := 11) (N := some 96) (v := ?_) (a' := ?_) #[true, true, true, true, true, true, true, true, true, true, true, true, false, false, false, false, false, false, false, false, false, false] rfl rfl (by kernel_rfl) (fun c_ a_ w_ h_ => panic_put15 96 _ (by decide) c_ a_ w_ h_) (Or.inl ⟨by rfl, ?_⟩) hHeld ?_ ?_
                          rotate_left
                          · rintro w' ⟨s0, s1, s2, s3, s4, s5, s6⟩
                            go_simp
                            with_reducible rfl
                          rotate_left
                          · simp only [Act.put, List.setIfInBounds_toArray, List.set_cons_zero, List.set_cons_succ, i64_w, i32_w]
                            rfl
                          refine pure_ (i := 12) (N := some 97) (v := ?_) (a' := ?_) #[true, true, true, true, true, true, true, true, true, true, true, true, true, false, false, false, false, false, false, false, false, false] rfl rfl (by kernel_rfl) (fun c_ a_ w_ h_ => panic_put15 97 _ (by decide) c_ a_ w_ h_) (Or.inl ⟨by rfl, ?_⟩) ?_ ?_
                          rotate_left
                          · intro w'
                            go_simp
                            with_reducible rfl
                          rotate_left
                          · simp only [Act.put, List.setIfInBounds_toArray, List.set_cons_zero, List.set_cons_succ, i64_w, i32_w]
                            rfl
                          refine take_ (i := 13) (N := some 98) (v := ?_) (a' := ?_) #[true, true, true, true, true, true, true, true, true, true, true, true, true, true, false, false, false, false, false, false, false, false] rfl rfl (by kernel_rfl) (fun c_ a_ w_ h_ => panic_put15 98 _ (by decide) c_ a_ w_ h_) (Or.inl ⟨by rfl, ?_⟩) hHeld ?_ ?_
                          rotate_left
                          · rintro w' ⟨s0, s1, s2, s3, s4, s5, s6⟩
                            go_simp
                            with_reducible rfl
                          rotate_left
                          · simp only [Act.put, List.setIfInBounds_toArray, List.set_cons_zero, List.set_cons_succ, i64_w, i32_w]
                            rfl
                          refine pure_ (i := 14) (N := some 99) (v := ?_) (a' := ?_) #[true, true, true, true, true, true, true, true, true, true, true, true, true, true, true, false, false, false, false, false, false, false] rfl rfl (by kernel_rfl) (fun c_ a_ w_ h_ => panic_put15 99 _ (by decide) c_ a_ w_ h_) (Or.inl ⟨by rfl, ?_⟩) ?_ ?_
                          rotate_left
                          · intro w'
                            go_simp
                            with_reducible rfl
                          rotate_left
                          · simp only [Act.put, List.setIfInBounds_toArray, List.set_cons_zero, List.set_cons_succ, i64_w, i32_w]
                            rfl
                          refine pure_ (i := 15) (N := some 100) (v := ?_) (a' := ?_) #[true, true, true, true, true, true, true, true, true, true, true, true, true, true, true, true, false, false, false, false, false, false] rfl rfl (by kernel_rfl) (fun c_ a_ w_ h_ => panic_put15 100 _ (by decide) c_ a_ w_ h_) (Or.inl ⟨by rfl, ?_⟩) ?_ ?_
                          rotate_left
                          · intro w'
                            go_simp
                            with_reducible rfl
                          rotate_left
                          · simp only [Act.put, List.setIfInBounds_toArray, List.set_cons_zero, List.set_cons_succ, i64_w, i32_w]
                            rfl
                          refine pure_ (i := 16) (N := some 101) (v := ?_) (a' := ?_) #[true, true, true, true, true, true, true, true, true, true, true, true, true, true, true, true, true, false, false, false, false, false] rfl rfl (by kernel_rfl) (fun c_ a_ w_ h_ => panic_put15 101 _ (by decide) c_ a_ w_ h_) (Or.inl ⟨by rfl, ?_⟩) ?_ ?_
                          rotate_left
                          · intro w'
                            go_simp
                            with_reducible rfl
                          rotate_left
                          · simp only [Act.put, List.setIfInBounds_toArray, List.set_cons_zero, List.set_cons_succ, i64_w, i32_w]
                            rfl
                          refine take_ (i := 17) (N := some 102) (v := ?_) (a' := ?_) #[true, true, true, true, true, true, true, true, true, true, true, true, true, true, true, true, true, true, false, false, false, false] rfl rfl (by kernel_rfl) (fun c_ a_ w_ h_ => panic_put15 102 _ (by decide) c_ a_ w_ h_) (Or.inl ⟨by rfl, ?_⟩) hHeld ?_ ?_
                          rotate_left
                          · rintro w' ⟨s0, s1, s2, s3, s4, s5, s6⟩
                            go_simp
                            with_reducible rfl
                          rotate_left
                          · simp only [Act.put, List.setIfInBounds_toArray, List.set_cons_zero, List.set_cons_succ, i64_w, i32_w]
                            rfl
                          refine pure_ (i := 18) (N := some 103) (v := ?_) (a' := ?_) #[true, true, true, true, true, true, true, true, true, true, true, true, true, true, true, true, true, true, true, false, false, false] rfl rfl (by kernel_rfl) (fun c_ a_ w_ h_ => panic_put15 103 _ (by decide) c_ a_ w_ h_) (Or.inl ⟨by rfl, ?_⟩) ?_ ?_
                          rotate_left
                          · intro w'
                            go_simp
                            with_reducible rfl
                          rotate_left
                          · simp only [Act.put, List.setIfInBounds_toArray, List.set_cons_zero, List.set_cons_succ, i64_w, i32_w]
                            rfl
                          refine pure_ (i := 19) (N := some 104) (v := ?_) (a' := ?_) #[true, true, true, true, true, true, true, true, true, true, true, true, true, true, true, true, true, true, true, true, false, false] rfl rfl (by kernel_rfl) (fun c_ a_ w_ h_ => panic_put15 104 _ (by decide) c_ a_ w_ h_) (Or.inl ⟨by rfl, ?_⟩) ?_ ?_
                          rotate_left
                          · intro w'
                            go_simp
                            with_reducible rfl
                          rotate_left
                          · simp only [Act.put, List.setIfInBounds_toArray, List.set_cons_zero, List.set_cons_succ, i64_w, i32_w]
                            rfl
                          refine take_ (i := 20) (N := some 105) (v := ?_) (a' := ?_) #[true, true, true, true, true, true, true, true, true, true, true, true, true, true, true, true, true, true, true, true, true, false] rfl rfl (by kernel_rfl) (fun c_ a_ w_ h_ => panic_put15 105 _ (by decide) c_ a_ w_ h_) (Or.inl ⟨by rfl, ?_⟩) hHeld ?_ ?_
                          rotate_left
                          · rintro w' ⟨s0, s1, s2, s3, s4, s5, s6⟩
                            go_simp
                            with_reducible rfl
                          rotate_left
                          · simp only [Act.put, List.setIfInBounds_toArray, List.set_cons_zero, List.set_cons_succ, i64_w, i32_w]
                            rfl
                          cases bh with
                          | true =>
                            have hq_ := e1 _ _ (case_err HE.out hil (p := (10, n.1)) (caseS_6 HC.out H1.out HQI.out HNS.out H2.out H3.out (.inr (by rw [HGD.out.2]; exact of_decide_eq_true dh))))
                            subst hq_
                            clear dh dl
                            refine last_ (i := 21) (N := some 106) #[true, true, true, true, true, true, true, true, true, true, true, true, true, true, true, true, true, true, true, true, true, true] rfl rfl (by kernel_rfl) (by decide) (fun K hK => ?_)
                            refine goesP_ Tryd.func35 (by kernel_rfl) rfl #[.bool true, .int .i64 10, .agg #[.int .i64 (n.2.kind : Int), .int .i64 (n.1 : Int), .int .i64 (n.2.n : Int), .string (bs n.2.text)]] (by rfl) rfl (by (try simp only [List.map_toArray, List.map_cons, List.map_nil]); first | done | rfl | simp) ?_
                            refine (check_bad' n 10 wd).mono ?_
                            rintro e_ wj ⟨rfl, bj⟩
                            exact ⟨_, rfl, HPd.out.panic hst (grown_of_below bj _) 10 n.1 _ rfl rfl rfl rfl⟩
                          | false =>
                            have HVQ := Aside0.mk (show v[q]? = some none by
                              have h5 : q < v.length := by rw [HVL.out]; exact HQ.out
                              have h6 := HS.out
                              rw [List.getD_eq_getElem?_getD, List.getElem?_eq_getElem h5] at h6
                              rw [List.getElem?_eq_getElem h5]
                              exact congrArg some (by simpa using h6))
                            have HN := case_step HE.out hil (j := pos + 3) (by omega) (caseS_7 HC.out H1.out HQI.out HNS.out H2.out H3.out (by rw [HGD.out.1, HGD.out.2]; exact fun h_ => h_.elim HNL.out (of_decide_eq_false dh)))
                            clear dh dl
                            refine last_ (i := 21) (N := some 106) #[true, true, true, true, true, true, true, true, true, true, true, true, true, true, true, true, true, true, true, true, true, true] rfl rfl (by kernel_rfl) (by decide) (fun K hK => ?_)
                            refine goes_ Tryd.func35 (by kernel_rfl) rfl #[.bool false, .int .i64 10, .agg #[.int .i64 (n.2.kind : Int), .int .i64 (n.1 : Int), .int .i64 (n.2.n : Int), .string (bs n.2.text)]] (by rfl) rfl rfl (by (try simp only [List.map_toArray, List.map_cons, List.map_nil]); first | done | rfl | simp) ?_
                            refine (check_ok' n 10 wd).mono ?_
                            rintro e_ wj ⟨rfl, bj⟩
                            refine ⟨_, rfl, ?_⟩
                            refine hK.out _ _ ?_
                            clear hK K hHeld
                            refine norm_ (a' := ?_) ?_ ?_
                            rotate_left
                            · show Act.put _ (some 106) _ = _
                              simp only [Act.put, List.setIfInBounds_toArray, List.set_cons_zero, List.set_cons_succ, i64_w, i32_w]
                              rfl
                            refine done_ (by kernel_rfl) ?_
                            have HP := Aside0.mk (HPd.out.below bj)
                            have BK := Aside0.mk (blk_below BKd.out bj)
                            have BL := Aside0.mk (blk_below BLd.out bj)
                            clear bj HPd BKd BLd
                            obtain ⟨bc, cc, hvc, hb1, hb2, hb3⟩ := HP.out.row (by rw [List.length_map, HVL.out]; have := HQ.out; omega)
                            subst hvc
                            have n10 : bc < b10 := L10.out bc rfl
                            have n9 : bc < b9 := LB.out bc rfl
                            have HCS := Kd.R_celln (h1 := fun _ => rfl) (enc := Value.int .i64) (0 : Int) HP.out.cs (q : Int) (by omega) (by rw [List.length_map, HVL.out]; have := HQ.out; omega)
                            rw [Int.toNat_natCast] at HCS
                            obtain ⟨y0, yf⟩ := HCS
                            have v0 := (blk_cell HP.out.res.1 0).trans (show _ = some (Value.slice (some ⟨bc, 0, none⟩) (v.map (·.getD 0)).length cc) from rfl)
                            rw [List.length_map, HVL.out] at v0
                            have j2 := (blk_cell BL.out 2).trans (show _ = some (Value.int .i64 (n.2.n : Int)) from rfl)
                            go_upto_region 26 with (fail)
                            refine at_world (F := fun w' => CI w w' bx bd be ba g m A c T (pos + 3) s.size base (some ad) l0.length cD (.slice (some ⟨bc, 0, none⟩) (v.map (·.getD 0)).length cc) ((v.set q (some (n.2.n : Int))).map (·.getD 0)) l0.length D ∧ w'.heap[b9]? = some (.cells (tokC t) 77 (0, 0))) ⟨by rw [← set_map]; exact HP.out.put hst (n.2.n : Int), blk_far BK.out (p := ⟨bc, q, none⟩) (by show b9 ≠ bc; omega) _⟩ ?_
                            clear y0 yf v0 j2 HP BK BL L10 LB
                            rintro w26 ⟨p_, k_⟩
                            have HP := Aside0.mk p_
                            have BK := Aside0.mk k_
                            clear p_ k_
                            have k3 := (blk_cell BK.out 3).trans (show _ = some (Value.string (bs t.2.text)) from rfl)
                            have HKY := Aside0.mk (show keyOf Tryd.prog 9 (.string (bs t.2.text)) = some (.string t.2.text) by rw [key9 (by rw [bs_size]; exact hsz t htm)]; exact congrArg (fun z => some (Lit.string z)) (byts_bs t.2.text))
                            go_wp2_with (at_delete; refine wpList_delete_own _ rfl _ _ 65 9 rfl 4 law9 Tryd.underlying65 _ m l0.length D rfl HP.out.map _ _ rfl HKY.out ?_; intro w27 o_ t_; have HO := Aside0.mk o_; have HG := Aside0.mk t_.grown; clear o_ t_)
                            obtain ⟨kf', hkf⟩ := HN
                            go_roundg k1
                            case measure => omega
                            case rel => exact ⟨pos + 3, kf', v.set q (some (n.2.n : Int)), _, _, by omega, by omega, ⟨by rw [List.length_set]; exact HVL.out⟩, ⟨HP.out.mapped hst HO.out HG.out⟩, ⟨by have := HL.out.del HND.out HF.out.1 HVQ.out (n.2.n : Int); rw [HF.out.2] at this; exact this⟩, ⟨by rw [show decide (pos + 3 = 0) = false from decide_eq_false (by omega)]; exact hkf⟩⟩
        · skip
          have hd1 : decide ((i : Int) < (T.length : Int)) = false := decide_eq_false (by omega)
          have hd2 : decide (i < T.length) = false := decide_eq_false hil
          have hp_ : parseCase d s.size T = caseEnd s.size v := by rw [← HE.out.2, List.drop_of_length_le (by omega)]; cases kf <;> rfl
          have hany := nones_any v
          rw [← HL.out.2.2.1] at hany
          by_cases hsz0 : 0 < Go.Maps.size D
          · rw [decide_eq_true hsz0] at hany
            unfold caseEnd at hp_
            rw [if_pos hany] at hp_
            have hq_ := e1 _ _ hp_
            subst hq_
            clear hp_ hany
            have hz1 : decide ((0 : Int) < (Go.Maps.size D : Int)) = true := decide_eq_true (by omega)
            have hz2 : decide (0 < Go.Maps.size D) = true := decide_eq_true hsz0
            go_wp2_with (first
              | (at_len; refine wpList_len_own _ rfl _ 65 rfl 9 4 Tryd.underlying65 _ m l0.length D rfl HP.out.map ?_)
              | (go_at_call 35; refine (check_bad 11 _ _ _ _ _).mono ?_; rintro e_ w11_ ⟨rfl, b_⟩; have B11 := Aside0.mk b_; clear b_))
            exact HP.out.panic hst (grown_of_below B11.out _) 11 s.size _ rfl rfl rfl rfl
          · rw [decide_eq_false hsz0] at hany
            unfold caseEnd at hp_
            rw [if_neg (by rw [hany]; decide)] at hp_
            have hq_ := e2 _ hp_
            subst hq_
            clear hp_ hany
            have hz1 : decide ((0 : Int) < (Go.Maps.size D : Int)) = false := decide_eq_false (by omega)
            have hz2 : decide (0 < Go.Maps.size D) = false := decide_eq_false hsz0
            go_upto_region 28 with (first
              | (at_len; refine wpList_len_own _ rfl _ 65 rfl 9 4 Tryd.underlying65 _ m l0.length D rfl HP.out.map ?_)
              | (go_at_call 35; refine (check_ok 11 _ _ _ _ _).mono ?_; rintro e_ w11_ ⟨rfl, b_⟩; have B11 := Aside0.mk b_; clear b_))
            refine at_world (F := fun w' => CI w w' bx bd be ba g m A c T i s.size base AD l0.length cD vc (v.map (·.getD 0)) l0.length D) (HP.out.below B11.out) ?_
            clear HP B11
            intro w28 p_
            have HP := Aside0.mk p_
            clear p_
            obtain ⟨A2, c2, hv2⟩ := Kd.R_slice HP.out.cs
            rw [List.length_map, HVL.out] at hv2
            subst hv2
            have v0 := (blk_cell HP.out.res.1 0).trans (show _ = some (Value.slice A2 l0.length c2) from rfl)
            have v1 := (blk_cell HP.out.res.2.1 0).trans (show _ = some (Value.int .i64 0) from rfl)
            have v2 := (blk_cell HP.out.res.2.2 0).trans (show _ = some (Value.int .i64 0) from rfl)
            have f0 := blk_frozen HP.out.res.1 0
            have f1 := blk_frozen HP.out.res.2.1 0
            have f2 := blk_frozen HP.out.res.2.2 0
            have a1 : bd ≠ be := Nat.ne_of_lt n1
            have a2 : be ≠ ba := Nat.ne_of_lt n2
            have a3 : bd ≠ ba := by omega
            have a4 : be ≠ bd := fun x => a1 x.symm
            have a5 : ba ≠ be := fun x => a2 x.symm
            have a6 : ba ≠ bd := fun x => a3 x.symm
            have u1 : ∀ k, g < k → k ≠ bd := fun k hk => by omega
            have u2 : ∀ k, g < k → k ≠ be := fun k hk => by omega
            have u3 : ∀ k, g < k → k ≠ ba := fun k hk => by omega
            go_wp2
            have key := fun ac h2 h3 h4 hf => case_ret bd be ba (.slice A2 l0.length c2) 0 0 (v.map (·.getD 0)) w _ ac h2 h3 h4 hf ⟨blk_far (blk_far (blk_put HP.out.res.1 0 _ rfl) (p := ⟨be, 0, none⟩) a1 _) (p := ⟨ba, 0, none⟩) a3 _, blk_far (blk_put (blk_far HP.out.res.2.1 (p := ⟨bd, 0, none⟩) a4 _) 0 _ rfl) (p := ⟨ba, 0, none⟩) a2 _, blk_put (blk_far (blk_far HP.out.res.2.2 (p := ⟨bd, 0, none⟩) a6 _) (p := ⟨be, 0, none⟩) a5 _) 0 _ rfl⟩ (Kd.R_mono (Kd.R_far (Kd.R_far (Kd.R_far HP.out.cs (p := ⟨bd, 0, none⟩) (fun k hk => u1 k hk.1) _) (p := ⟨be, 0, none⟩) (fun k hk => u2 k hk.1) _) (p := ⟨ba, 0, none⟩) (fun k hk => u3 k hk.1) _) (fun _ _ => trivial)) (below_set (below_set (below_set HP.out.wb (by omega)) (by omega)) (by omega))
            exact key _ rfl rfl rfl rfl
end Go.Proofs.YtgddmfphlhlcjaaDoor.FcW
