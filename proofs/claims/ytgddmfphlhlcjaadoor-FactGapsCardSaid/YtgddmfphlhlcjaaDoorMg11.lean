/- fact.Parse. -/
import Derived.Test.YtgddmfphlhlcjaaDoorMg10
namespace Go.Proofs.YtgddmfphlhlcjaaDoor.FcW
open Go.RowKit Go.Proofs.YtgddmfphlhlcjaaDoorW.PrintWords Go.Proofs.YtgddmfphlhlcjaaDoorW.PrintLast Go.Proofs.YtgddmfphlhlcjaaDoorW.PrintMore
open Go.Proofs.YtgddmfphlhlcjaaDoor Go.Proofs.YtgddmfphlhlcjaaDoor.PF Go.Proofs.YtgddmfphlhlcjaaDoor.LxP Go.Proofs.YtgddmfphlhlcjaaDoor.LxW Go.Proofs.YtgddmfphlhlcjaaDoor.FcP
set_option linter.unusedVariables false
set_option linter.unusedSimpArgs false

set_option maxHeartbeats 64000000 in
set_option maxRecDepth 100000 in
theorem parse_lexed (s : ByteArray) (T : Ts) (w : World) (rr : List S42 × Int × Int) (h : lexT s = (T.map toS, 0, 0)) (hsz : ∀ p ∈ T, p.2.text.length ≤ 1000000) (hlen : T.length ≤ 1000000)
    (e1 : ∀ e a, parse s.size T = .error (e, a) → rr = ([], (e : Int), (a : Int))) (e2 : ∀ d, parse s.size T = .ok d → rr = (d.map ofF, 0, 0)) :
    Calls Tryd.prog 12 #[.string s] w (PSays rr w) := by
  have hmf : ∀ (fn : Fn) (first cap : Array Value) (w : World), (Instr.makeFunc fn first cap).run Tryd.prog w = .ok (.func fn first cap) w := fun _ _ _ _ => rfl
  have hmm := @run_makeMap Tryd.prog
  go_enter_defers Tryd.func12, Tryd.ntmps12
  go_upto_region 1 with (first | ((with_reducible refine gate_dst (N := 2) rfl ?_); (try (refine gate_guard (by rfl) ?_; dsimp only)); refine box_event ?hg (N := 2) ?hd (cs := #[.slice none 0 0]) (t := 24) ?hr ?_; (case hd => rfl); (case hg => rfl); (case hr => first | (go_simp; done) | (go_simp; rfl)); intro bd hg_bd wa hbox hb; have BK_bd := Aside0.mk hbox; have HB_bd := Aside0.mk hb; have GE_bd := Aside0.mk (Nat.le_of_eq hg_bd.symm); clear hbox hb hg_bd) | ((with_reducible refine gate_dst (N := 3) rfl ?_); (try (refine gate_guard (by rfl) ?_; dsimp only)); refine box_event ?hg (N := 3) ?hd (cs := #[.int .i64 0]) (t := 29) ?hr ?_; (case hd => rfl); (case hg => rfl); (case hr => first | (go_simp; done) | (go_simp; rfl)); intro be hg_be wb hbox hb; have BK_be := Aside0.mk hbox; have HB_be := Aside0.mk hb; have GE_be := Aside0.mk (Nat.le_of_eq hg_be.symm); clear hbox hb hg_be) | ((with_reducible refine gate_dst (N := 4) rfl ?_); (try (refine gate_guard (by rfl) ?_; dsimp only)); refine box_event ?hg (N := 4) ?hd (cs := #[.int .i64 0]) (t := 3) ?hr ?_; (case hd => rfl); (case hg => rfl); (case hr => first | (go_simp; done) | (go_simp; rfl)); intro ba hg_ba wc hbox hb; have BK_ba := Aside0.mk hbox; have HB_ba := Aside0.mk hb; have GE_ba := Aside0.mk (Nat.le_of_eq hg_ba.symm); clear hbox hb hg_ba))
  have la := blk_lt BK_bd.out
  have lb := blk_lt BK_be.out
  have n1 : bd < be := by have := GE_be.out; omega
  have n2 : be < ba := by have := GE_ba.out; omega
  have GD : w.heap.size ≤ bd := GE_bd.out
  refine at_world (F := fun w' => Res w' bd be ba 24 (.slice none 0 0) 0 0 ∧ Below w.heap.size w w') ⟨⟨blk_below (blk_below BK_bd.out HB_be.out) HB_ba.out, blk_below BK_be.out HB_ba.out, BK_ba.out⟩, below_step (below_step HB_bd.out HB_be.out) HB_ba.out⟩ ?_
  clear BK_bd HB_bd GE_bd BK_be HB_be GE_be BK_ba HB_ba GE_ba la lb
  rintro w0 ⟨hR0, hB0⟩
  have R0 := Aside0.mk hR0
  have B0 := Aside0.mk hB0
  clear hR0 hB0
  go_upto_region 2 with (first | (go_at_call 21; refine (lex_any s _).mono ?_; rw [h]; rintro e_ w1 ⟨v, rfl, hv, hb⟩; obtain ⟨A, c, rfl⟩ := Kd.R_slice hv; have HV := Aside0.mk hv; have HB := Aside0.mk hb; have c1 := (blk_cell (R0.out.below hb).2.1 0).trans (show _ = some (Value.int .i64 0) from rfl); have f1 := blk_frozen (R0.out.below hb).2.1 0; have c2 := (blk_cell (R0.out.below hb).2.2 0).trans (show _ = some (Value.int .i64 0) from rfl); have f2 := blk_frozen (R0.out.below hb).2.2 0; have n3 : be ≠ ba := Nat.ne_of_lt n2; have n4 : ba ≠ be := fun x => n3 x.symm; clear hv hb))
  have lbe := blk_lt R0.out.2.1
  have lba := blk_lt R0.out.2.2
  refine at_world (F := fun w' => Res w' bd be ba 24 (.slice none 0 0) 0 0 ∧ Kd.R k77 77 w' w0.heap.size (fun _ => True) (.slice A (T.map toS).length c) (T.map toS) ∧ Below w.heap.size w w') ⟨⟨blk_far (blk_far (R0.out.below HB.out).1 (p := ⟨be, 0, none⟩) (Nat.ne_of_lt n1) _) (p := ⟨ba, 0, none⟩) (by show bd ≠ ba; omega) _, blk_far (blk_put (R0.out.below HB.out).2.1 0 _ rfl) (p := ⟨ba, 0, none⟩) n3 _, blk_put (blk_far (R0.out.below HB.out).2.2 (p := ⟨be, 0, none⟩) n4 _) 0 _ rfl⟩, Kd.R_mono (Kd.R_far (Kd.R_far (Kd.R_bound HV.out) (p := ⟨be, 0, none⟩) (fun k hk e => by have := hk.2.1; have : k = be := e; omega) _) (p := ⟨ba, 0, none⟩) (fun k hk e => by have := hk.2.1; have : k = ba := e; omega) _) (fun _ _ => trivial), below_set (below_set (below_step B0.out HB.out) (by omega)) (by omega)⟩ ?_
  generalize w0.heap.size = base at lbe lba ⊢
  clear HV HB c1 f1 c2 f2 R0 B0 w0
  rintro w3 ⟨r_, v_, b_⟩
  have R3 := Aside0.mk r_
  have V3 := Aside0.mk v_
  have B3 := Aside0.mk b_
  clear r_ v_ b_
  have q1 := (blk_cell R3.out.2.1 0).trans (show _ = some (Value.int .i64 0) from rfl)
  go_upto_region 6 with (first | ((with_reducible refine gate_dst (N := 28) rfl ?_); (try (refine gate_guard (by rfl) ?_; dsimp only)); refine box_event ?hg (N := 28) ?hd (cs := #[.slice A (T.map toS).length c, .int .i64 0, .int .i64 s.size]) (t := 72) ?hr ?_; (case hd => rfl); (case hg => rfl); (case hr => first | (go_simp; done) | (go_simp; rfl)); intro g hg_g w2 hbox hb; have BK_g := Aside0.mk hbox; have HB_g := Aside0.mk hb; have GE_g := Aside0.mk (Nat.le_of_eq hg_g.symm); clear hbox hb hg_g))
  have lg := blk_lt R3.out.2.2
  have G6 := GE_g.out
  refine at_world (F := fun w' => Res w' bd be ba 24 (.slice none 0 0) 0 0 ∧ TkAt w' g A c (T.map toS) 0 s.size base ∧ Below w.heap.size w w' ∧ ba < g ∧ g < w'.heap.size) ⟨R3.out.below HB_g.out, ⟨BK_g.out, Kd.R_mono (Kd.R_below (Kd.R_bound V3.out) HB_g.out) (fun k hk e => by have := hk.2.2.1; omega)⟩, below_step B3.out HB_g.out, by omega, blk_lt BK_g.out⟩ ?_
  clear BK_g HB_g GE_g G6 lg R3 V3 B3 q1
  rintro w4 ⟨r_, t_, b_, n5, n6⟩
  have R4 := Aside0.mk r_
  have T4 := Aside0.mk t_
  have B4 := Aside0.mk b_
  clear r_ t_ b_
  obtain ⟨m1, hm1⟩ : ∃ m1, w4.heap.size = m1 := ⟨_, rfl⟩
  have hbm1 := Aside0.mk (below_alloc (Below.refl w4.heap.size w4) (Obj.map #[] 0))
  have hom1 := Aside0.mk (World.ownsMap_made (H := Unit) w4 Tryd.prog 9 (plainElem Tryd.prog 3))
  rw [hm1] at hom1
  go_upto_region 7 with (first
    | (rw [hm1]; fail)
    | (refine wpList_insert_own _ rfl _ _ _ 73 rfl 9 3 law9 Tryd.underlying73 (plainElem (H := Unit) Tryd.prog 3) m1 0 (.map []) (by first | rfl | (show Value.map (some w4.heap.size) = _; rw [hm1])) hom1.out (by unfold maxLen; omega) _ _ _ rfl rfl (key9 (by decide)) _ [] (plainElem_int Tryd.underlying3 (by decide)) ?_; intro w5 o5_ g5_; have O5 := Aside0.mk o5_; have G5 := Aside0.mk g5_; clear o5_ g5_)
    | (refine wpList_insert_own _ rfl _ _ _ 73 rfl 9 3 law9 Tryd.underlying73 (plainElem (H := Unit) Tryd.prog 3) m1 1 _ (by first | rfl | (show Value.map (some w4.heap.size) = _; rw [hm1])) O5.out (by unfold maxLen; omega) _ _ _ rfl rfl (key9 (by decide)) _ [] (plainElem_int Tryd.underlying3 (by decide)) ?_; intro w6 o5_ g5_; have O6 := Aside0.mk o5_; have G6 := Aside0.mk g5_; clear o5_ g5_))
  refine at_world (F := fun w' => Res w' bd be ba 24 (.slice none 0 0) 0 0 ∧ TkAt w' g A c (T.map toS) 0 s.size base ∧ Kinds w' m1 ∧ Below w.heap.size w w' ∧ m1 < w'.heap.size) ⟨((R4.out.below hbm1.out).grown G5.out (by omega) (by omega) (by omega)).grown G6.out (by omega) (by omega) (by omega), tk_old (m := m1) T4.out (by omega) (fun k hk => (G6.out.block k (by have := G5.out.size; simp at this; omega) (fun e => by have := Option.some.inj e; omega)).trans ((G5.out.block k (by simp; omega) (fun e => by have := Option.some.inj e; omega)).trans (hbm1.out.block k hk))), O6.out, ((below_step B4.out hbm1.out).grown G5.out (by have := B4.out.size; simp; omega) (fun k hk => by have := Option.some.inj hk; have := B4.out.size; omega)).grown G6.out (by have := B4.out.size; have := G5.out.size; simp at this; omega) (fun k hk => by have := Option.some.inj hk; have := B4.out.size; omega), O6.out.lt⟩ ?_
  clear hbm1 hom1 O5 G5 O6 G6 R4 T4 B4
  rintro w7 ⟨r_, t_, k_, b_, n7⟩
  have R7 := Aside0.mk r_
  have T7 := Aside0.mk t_
  have K7 := Aside0.mk k_
  have B7 := Aside0.mk b_
  clear r_ t_ k_ b_
  have n8 : g < m1 := by omega
  clear hm1 n6
  obtain ⟨m2, hm2⟩ : ∃ m2, w7.heap.size = m2 := ⟨_, rfl⟩
  have hbm1 := Aside0.mk (below_alloc (Below.refl w7.heap.size w7) (Obj.map #[] 0))
  have hom1 := Aside0.mk (World.ownsMap_made (H := Value) w7 Tryd.prog 3 heldR)
  rw [hm2] at hom1
  go_upto_region 8 with (first
    | (refine wpList_insert_own _ rfl _ _ _ 75 rfl 3 74 law3 Tryd.underlying75 heldR m2 0 (.map []) (by first | rfl | (show Value.map (some w7.heap.size) = _; rw [hm2])) hom1.out (by unfold maxLen; omega) _ _ _ rfl rfl (Go.Maps.keyOf_int_mk (a := 1) Tryd.underlying3 (by decide)) _ [] rfl ?_; intro w8 o5_ g5_; have O5 := Aside0.mk o5_; have G5 := Aside0.mk g5_; clear o5_ g5_)
    | (refine wpList_insert_own _ rfl _ _ _ 75 rfl 3 74 law3 Tryd.underlying75 heldR m2 1 _ (by first | rfl | (show Value.map (some w7.heap.size) = _; rw [hm2])) O5.out (by unfold maxLen; omega) _ _ _ rfl rfl (Go.Maps.keyOf_int_mk (a := 2) Tryd.underlying3 (by decide)) _ [] rfl ?_; intro w9 o5_ g5_; have O6 := Aside0.mk o5_; have G6 := Aside0.mk g5_; clear o5_ g5_))
  refine at_world (F := fun w' => PI w w' bd be ba g m1 m2 g A c T 0 s.size base (.slice none 0 0) []) ⟨tk_old (m := m2) T7.out (by omega) (fun k hk => (G6.out.block k (by have := G5.out.size; simp at this; omega) (fun e => by have := Option.some.inj e; omega)).trans ((G5.out.block k (by simp; omega) (fun e => by have := Option.some.inj e; omega)).trans (hbm1.out.block k hk))), ((R7.out.below hbm1.out).grown G5.out (by omega) (by omega) (by omega)).grown G6.out (by omega) (by omega) (by omega), Kd.R_nil _ _ _ _ _, ((ownsMap_below K7.out hbm1.out).kept G5.out (fun e => by have := Option.some.inj e; omega)).kept G6.out (fun e => by have := Option.some.inj e; omega), O6.out, ((below_step B7.out hbm1.out).grown G5.out (by have := B7.out.size; simp; omega) (fun k hk => by have := Option.some.inj hk; have := B7.out.size; omega)).grown G6.out (by have := B7.out.size; have := G5.out.size; simp at this; omega) (fun k hk => by have := Option.some.inj hk; have := B7.out.size; omega)⟩ ?_
  have hst : St w bd be ba g m1 m2 := ⟨GD, n1, n2, n5, n8, by omega⟩
  clear hbm1 hom1 O5 G5 O6 G6 R7 T7 B7 K7 hm2 hmf hmm n7
  intro w10 p_
  have HP0 := Aside0.mk p_
  clear p_
  go_loopg [37] T.length (fun gk _ wr => ∃ (i kf : Nat) (d : List Fc) (vd : Value), T.length - i ≤ gk ∧ i ≤ T.length ∧ Aside0 (PI w wr bd be ba g m1 m2 g A c T i s.size base vd d) ∧ Aside0 ((T.drop i).length ≤ kf ∧ parseN s.size kf d (T.drop i) = parse s.size T) ∧ Aside0 (d.length ≤ i))
  case atStart => exact ⟨0, T.length, [], .slice none 0 0, by omega, Nat.zero_le _, HP0, ⟨by simp, rfl⟩, ⟨by simp⟩⟩
  case round =>
    clear HP0
    obtain ⟨i, kf, d, vd, hgk, hi, HP, HE, HL⟩ := hrel
    have r0 := (blk_cell HP.out.1.1 0).trans (show _ = some (Value.slice A (T.map toS).length c) from rfl)
    have r1 := (blk_cell HP.out.1.1 1).trans (show _ = some (Value.int .i64 (i : Int)) from rfl)
    by_cases hil : i < T.length
    · skip
      cases gk with
      | zero => omega
      | succ k1 =>
        have hd1 : decide ((i : Int) < (T.length : Int)) = true := decide_eq_true (by omega)
        have hd2 : decide (i < T.length) = true := decide_eq_true hil
        have hlen2 : d.length ≤ 1000000 := by have := HL.out; omega
        have HT := Aside0.mk HP.out.1
        obtain ⟨A2, c2, hv2⟩ := Kd.R_slice HP.out.2.2.1
        rw [List.length_map] at hv2
        subst hv2
        cases h1 : take 1 [] s.size (T.drop i) with
        | error p =>
          obtain ⟨e, a⟩ := p
          have H1 := Aside0.mk h1
          clear h1
          have hp_ := parse_err HE.out hil (show factS s.size d (T.drop i) = .error (e, a) by unfold factS; rw [H1.out]; rfl)
          have hq := e1 _ _ hp_
          subst hq
          clear hp_
          go_wp2_with (go_at_call 34; refine (take_fail2 H1.out hi HT.out rfl rfl).mono ?_; rintro e_ w1 ⟨rfl, g_⟩; have G1 := Aside0.mk g_; clear g_)
          exact HP.out.panic hst G1.out e a _ rfl rfl rfl rfl
        | ok p =>
          obtain ⟨t, r⟩ := p
          obtain ⟨rfl, hi1⟩ := take_next h1
          have H1 := Aside0.mk h1
          have htm := take_mem h1
          clear h1
          obtain ⟨bx, hx⟩ : ∃ bx, (FcP.index d t.2.text).isSome = bx := ⟨_, rfl⟩
          have HX3 := Aside0.mk hx
          clear hx
          go_upto_region 10 with (first | (go_at_call 34; refine (take_good2 H1.out HT.out rfl rfl).mono ?_; rintro e_ w1 ⟨rfl, tk_, g_⟩; have TK1 := Aside0.mk tk_; have G1 := Aside0.mk g_; clear tk_ g_) | ((with_reducible refine gate_dst (N := 9) rfl ?_); (try (refine gate_guard (by rfl) ?_; dsimp only)); refine box_event ?hg (N := 9) ?hd (cs := #[.int .i64 0, .int .i64 0, .int .i64 0, .string (⟨#[]⟩ : ByteArray)]) (t := 77) ?hr ?_; (case hd => rfl); (case hg => rfl); (case hr => first | (go_simp; done) | (go_simp; rfl)); intro b9 hg_b9 w2 hbox hb; have BK_b9 := Aside0.mk hbox; have HB_b9 := Aside0.mk hb; have GE_b9 := Aside0.mk (Nat.le_of_eq hg_b9.symm); clear hbox hb hg_b9; have zb90 := (blk_cell BK_b9.out 0).trans (show _ = some (Value.int .i64 0) from rfl); have fb90 := blk_frozen BK_b9.out 0; have zb91 := (blk_cell BK_b9.out 1).trans (show _ = some (Value.int .i64 0) from rfl); have fb91 := blk_frozen BK_b9.out 1; have zb92 := (blk_cell BK_b9.out 2).trans (show _ = some (Value.int .i64 0) from rfl); have fb92 := blk_frozen BK_b9.out 2; have zb93 := (blk_cell BK_b9.out 3).trans (show _ = some (Value.string (⟨#[]⟩ : ByteArray)) from rfl); have fb93 := blk_frozen BK_b9.out 3))
          have hg1 := blk_lt HP.out.1.1
          refine at_world (F := fun w' => PI w w' bd be ba g m1 m2 g A c T (i + 1) s.size base (.slice A2 d.length c2) d ∧ w'.heap[b9]? = some (.cells (tokC t) 77 (0, 0))) ⟨(HP.out.took hst TK1.out G1.out).below (below_set (below_set (below_set (below_set HB_b9.out GE_b9.out) GE_b9.out) GE_b9.out) GE_b9.out), (blk_put (blk_put (blk_put (blk_put BK_b9.out 0 _ rfl) 1 _ rfl) 2 _ rfl) 3 _ rfl)⟩ ?_
          have L9 := Aside0.mk (show b9 ≠ g by have := GE_b9.out; have := G1.out.size; omega)
          clear TK1 G1 BK_b9 HB_b9 GE_b9 zb90 fb90 zb91 fb91 zb92 fb92 zb93 fb93 hg1 HT r0 r1
          rintro w9 ⟨p_, k_⟩
          have HP9 := Aside0.mk p_
          have BK9 := Aside0.mk k_
          clear p_ k_
          have k0 := (blk_cell BK9.out 0).trans (show _ = some (Value.int .i64 (t.2.kind : Int)) from rfl)
          have k1 := (blk_cell BK9.out 1).trans (show _ = some (Value.int .i64 (t.1 : Int)) from rfl)
          have k2 := (blk_cell BK9.out 2).trans (show _ = some (Value.int .i64 (t.2.n : Int)) from rfl)
          have k3 := (blk_cell BK9.out 3).trans (show _ = some (Value.string (bs t.2.text)) from rfl)
          have v0 := (blk_cell HP9.out.2.1.1 0).trans (show _ = some (Value.slice A2 d.length c2) from rfl)
          refine start_ (n := 7) (S := fun w' => w'.cell? ⟨bd, 0, none⟩ = some (.slice A2 d.length c2) ∧ w'.cell? ⟨b9, 0, none⟩ = some (.int .i64 (t.2.kind : Int)) ∧ w'.cell? ⟨b9, 1, none⟩ = some (.int .i64 (t.1 : Int)) ∧ w'.cell? ⟨b9, 2, none⟩ = some (.int .i64 (t.2.n : Int)) ∧ w'.cell? ⟨b9, 3, none⟩ = some (.string (bs t.2.text))) (ds := [6]) #[false, false, false, false, false, false, false] (by kernel_rfl) rfl rfl ⟨v0, k0, k1, k2, k3⟩ (fun hHeld => ?_)
          obtain ⟨wd, hwd⟩ : ∃ wd, w9.drew = wd := ⟨_, rfl⟩
          have HPd := Aside0.mk (show PI w wd bd be ba g m1 m2 g A c T (i + 1) s.size base (.slice A2 d.length c2) d by rw [← hwd]; exact HP9.out.below (below_drew1 (Below.refl _ _)))
          have BKd := Aside0.mk (show wd.heap[b9]? = some (.cells (tokC t) 77 (0, 0)) by rw [← hwd]; exact blk_drew BK9.out)
          rw [hwd] at hHeld ⊢
          clear hwd k0 k1 k2 k3 v0 HP9 BK9
          refine take_ (i := 0) (N := some 46) (v := ?_) (a' := ?_) #[true, false, false, false, false, false, false] rfl rfl (by kernel_rfl) (fun c_ a_ w_ h_ => panic_put 46 _ (by decide) c_ a_ w_ h_) (Or.inl ⟨by rfl, ?_⟩) hHeld ?_ ?_
          rotate_left
          · rintro w' ⟨s0, s1, s2, s3, s4⟩
            go_simp
            with_reducible rfl
          rotate_left
          · simp only [Act.put, List.setIfInBounds_toArray, List.set_cons_zero, List.set_cons_succ, i64_w, i32_w]
            rfl
          refine pure_ (i := 1) (N := some 47) (v := ?_) (a' := ?_) #[true, true, false, false, false, false, false] rfl rfl (by kernel_rfl) (fun c_ a_ w_ h_ => panic_put 47 _ (by decide) c_ a_ w_ h_) (Or.inl ⟨by rfl, ?_⟩) ?_ ?_
          rotate_left
          · intro w'
            go_simp
            with_reducible rfl
          rotate_left
          · simp only [Act.put, List.setIfInBounds_toArray, List.set_cons_zero, List.set_cons_succ, i64_w, i32_w]
            rfl
          refine take_ (i := 2) (N := some 48) (v := ?_) (a' := ?_) #[true, true, true, false, false, false, false] rfl rfl (by kernel_rfl) (fun c_ a_ w_ h_ => panic_put 48 _ (by decide) c_ a_ w_ h_) (Or.inl ⟨by rfl, ?_⟩) hHeld ?_ ?_
          rotate_left
          · rintro w' ⟨s0, s1, s2, s3, s4⟩
            go_simp
            with_reducible rfl
          rotate_left
          · simp only [Act.put, List.setIfInBounds_toArray, List.set_cons_zero, List.set_cons_succ, i64_w, i32_w]
            rfl
          refine take_ (i := 5) (N := some 51) (v := ?_) (a' := ?_) #[true, true, true, false, false, true, false] rfl rfl (by kernel_rfl) (fun c_ a_ w_ h_ => panic_put 51 _ (by decide) c_ a_ w_ h_) (Or.inl ⟨by rfl, ?_⟩) hHeld ?_ ?_
          rotate_left
          · rintro w' ⟨s0, s1, s2, s3, s4⟩
            go_simp
            with_reducible rfl
          rotate_left
          · simp only [Act.put, List.setIfInBounds_toArray, List.set_cons_zero, List.set_cons_succ, i64_w, i32_w]
            rfl
          refine one_ (i := 3) (N := some 49) #[true, true, true, true, false, true, false] rfl rfl (by kernel_rfl) (by decide) (fun K hK => ?_)
          refine goes_ Tryd.func36 (by kernel_rfl) rfl #[.agg #[.slice A2 d.length c2], .string (bs t.2.text)] (by rfl) rfl rfl (by (try simp only [List.map_toArray, List.map_cons, List.map_nil]); first | done | rfl) ?_
          refine (index_d HPd.out.2.2.1 (bs t.2.text) hlen2).mono ?_
          rintro e_ wi ⟨rfl, bi⟩
          refine ⟨_, rfl, ?_⟩
          have HPi := Aside0.mk (HPd.out.below bi)
          have BKi := Aside0.mk (blk_below BKd.out bi)
          refine hK.out _ _ ⟨(blk_cell HPi.out.2.1.1 0).trans (show _ = some (Value.slice A2 d.length c2) from rfl), (blk_cell BKi.out 0).trans (show _ = some (Value.int .i64 (t.2.kind : Int)) from rfl), (blk_cell BKi.out 1).trans (show _ = some (Value.int .i64 (t.1 : Int)) from rfl), (blk_cell BKi.out 2).trans (show _ = some (Value.int .i64 (t.2.n : Int)) from rfl), (blk_cell BKi.out 3).trans (show _ = some (Value.string (bs t.2.text)) from rfl)⟩ (fun hHeld => ?_)
          clear hK K bi HPd BKd
          refine norm_ (a' := ?_) ?_ ?_
          rotate_left
          · show Act.put _ (some 49) _ = _
            simp only [Act.put, List.setIfInBounds_toArray, List.set_cons_zero, List.set_cons_succ, i64_w, i32_w]
            rfl
          have hix := idx_is (bs t.2.text) d
          rw [byts_bs t.2.text, HX3.out] at hix
          generalize idxFrom (bs t.2.text) 0 (d.map ofF) = q at hix ⊢
          refine pure_ (i := 4) (N := some 50) (v := ?_) (a' := ?_) #[true, true, true, true, true, true, false] rfl rfl (by kernel_rfl) (fun c_ a_ w_ h_ => panic_put 50 _ (by decide) c_ a_ w_ h_) (Or.inl ⟨by rfl, ?_⟩) ?_ ?_
          rotate_left
          · intro w'
            go_simp
            with_reducible rfl
          rotate_left
          · simp only [Act.put, List.setIfInBounds_toArray, List.set_cons_zero, List.set_cons_succ, i64_w, i32_w]
            rfl
          cases bx with
          | true =>
            have hp_ := parse_err HE.out hil (show factS s.size d (T.drop i) = .error (9, t.1) by unfold factS; rw [H1.out]; show (if _ then _ else _) = _; rw [if_pos HX3.out])
            have hq := e1 _ _ hp_
            subst hq
            clear hp_
            refine last_ (i := 6) (N := some 52) #[true, true, true, true, true, true, true] rfl rfl (by kernel_rfl) (by decide) (fun K hK => ?_)
            refine goesP_ Tryd.func35 (by kernel_rfl) rfl #[.bool true, .int .i64 9, .agg #[.int .i64 (t.2.kind : Int), .int .i64 (t.1 : Int), .int .i64 (t.2.n : Int), .string (bs t.2.text)]] (by rfl) rfl (by (try simp only [List.map_toArray, List.map_cons, List.map_nil]); first | done | rfl | simp) ?_
            refine (check_bad' t 9 wi).mono ?_
            rintro e_ wj ⟨rfl, bj⟩
            exact ⟨_, rfl, HPi.out.panic hst (grown_of_below bj _) 9 t.1 _ rfl rfl rfl rfl⟩
          | false =>
            have HNX := Aside0.mk (show ¬ (FcP.index d t.2.text).isSome = true by rw [HX3.out]; decide)
            refine last_ (i := 6) (N := some 52) #[true, true, true, true, true, true, true] rfl rfl (by kernel_rfl) (by decide) (fun K hK => ?_)
            refine goes_ Tryd.func35 (by kernel_rfl) rfl #[.bool false, .int .i64 9, .agg #[.int .i64 (t.2.kind : Int), .int .i64 (t.1 : Int), .int .i64 (t.2.n : Int), .string (bs t.2.text)]] (by rfl) rfl rfl (by (try simp only [List.map_toArray, List.map_cons, List.map_nil]); first | done | rfl | simp) ?_
            refine (check_ok' t 9 wi).mono ?_
            rintro e_ wj ⟨rfl, bj⟩
            refine ⟨_, rfl, ?_⟩
            refine hK.out _ _ ?_
            clear hK K hHeld
            refine norm_ (a' := ?_) ?_ ?_
            rotate_left
            · show Act.put _ (some 52) _ = _
              simp only [Act.put, List.setIfInBounds_toArray, List.set_cons_zero, List.set_cons_succ, i64_w, i32_w]
              rfl
            refine done_ (by kernel_rfl) ?_
            have HPj := Aside0.mk (HPi.out.below bj)
            have BKj := Aside0.mk (blk_below BKi.out bj)
            clear bj HPi BKi hix
            by_cases hl60 : d.length = 60
            · have HL60 := Aside0.mk hl60
              clear hl60
              have hp_ := parse_err HE.out hil (show factS s.size d (T.drop i) = .error (2, t.1) by unfold factS; rw [H1.out]; show (if _ then _ else _) = _; rw [if_neg HNX.out]; show (if _ then _ else _) = _; rw [if_pos HL60.out])
              have hq := e1 _ _ hp_
              subst hq
              clear hp_
              have k0 := (blk_cell BKj.out 0).trans (show _ = some (Value.int .i64 (t.2.kind : Int)) from rfl)
              have k1 := (blk_cell BKj.out 1).trans (show _ = some (Value.int .i64 (t.1 : Int)) from rfl)
              have k2 := (blk_cell BKj.out 2).trans (show _ = some (Value.int .i64 (t.2.n : Int)) from rfl)
              have k3 := (blk_cell BKj.out 3).trans (show _ = some (Value.string (bs t.2.text)) from rfl)
              have v0 := (blk_cell HPj.out.2.1.1 0).trans (show _ = some (Value.slice A2 d.length c2) from rfl)
              have y1 : ((d.length : Int) == 60) = true := by first | (rw [beq_eq_false_iff_ne]; omega) | (rw [beq_iff_eq]; have := HL60.out; omega)
              have y2 : (d.length == 60) = true := by first | (rw [beq_eq_false_iff_ne]; omega) | (rw [beq_iff_eq]; exact HL60.out)
              go_wp2_with (go_at_call 35; refine (check_bad' t _ _).mono ?_; rintro e_ w11 ⟨rfl, b_⟩; have B11 := Aside0.mk b_; clear b_)
              exact HPj.out.panic hst (grown_of_below B11.out _) 2 t.1 _ rfl rfl rfl rfl
            · have HNL := Aside0.mk hl60
              have k0 := (blk_cell BKj.out 0).trans (show _ = some (Value.int .i64 (t.2.kind : Int)) from rfl)
              have k1 := (blk_cell BKj.out 1).trans (show _ = some (Value.int .i64 (t.1 : Int)) from rfl)
              have k2 := (blk_cell BKj.out 2).trans (show _ = some (Value.int .i64 (t.2.n : Int)) from rfl)
              have k3 := (blk_cell BKj.out 3).trans (show _ = some (Value.string (bs t.2.text)) from rfl)
              have v0 := (blk_cell HPj.out.2.1.1 0).trans (show _ = some (Value.slice A2 d.length c2) from rfl)
              have y1 : ((d.length : Int) == 60) = false := by first | (rw [beq_eq_false_iff_ne]; omega) | (rw [beq_iff_eq]; have := HL60.out; omega)
              have y2 : (d.length == 60) = false := by first | (rw [beq_eq_false_iff_ne]; omega) | (rw [beq_iff_eq]; exact HL60.out)
              go_upto_region 12 with (go_at_call 35; refine (check_ok' t _ _).mono ?_; rintro e_ w11 ⟨rfl, b_⟩; have B11 := Aside0.mk b_; clear b_)
              refine at_world (F := fun w' => PI w w' bd be ba g m1 m2 g A c T (i + 1) s.size base (.slice A2 d.length c2) d ∧ w'.heap[b9]? = some (.cells (tokC t) 77 (0, 0))) ⟨HPj.out.below B11.out, blk_below BKj.out B11.out⟩ ?_
              clear k0 k1 k2 k3 v0 y1 y2 HPj BKj B11
              rintro w12 ⟨p_, k_⟩
              have HP12 := Aside0.mk p_
              have BK12 := Aside0.mk k_
              have HT2 := Aside0.mk p_.1
              clear p_ k_
              clear hl60
              cases h2 : take 1 [] s.size (T.drop (i + 1)) with
              | error p =>
                obtain ⟨e, a⟩ := p
                have H2 := Aside0.mk h2
                clear h2
                have hp_ := parse_err HE.out hil (show factS s.size d (T.drop i) = .error (e, a) by unfold factS; rw [H1.out]; show (if _ then _ else _) = _; rw [if_neg HNX.out]; show (if _ then _ else _) = _; rw [if_neg HNL.out]; show (take 1 [] s.size (T.drop (i + 1))).bind _ = _; rw [H2.out]; rfl)
                have hq := e1 _ _ hp_
                subst hq
                clear hp_
                go_wp2_with (go_at_call 34; refine (take_fail2 H2.out hi1 HT2.out rfl rfl).mono ?_; rintro e_ w13 ⟨rfl, g_⟩; have G13 := Aside0.mk g_; clear g_)
                exact HP12.out.panic hst G13.out e a _ rfl rfl rfl rfl
              | ok p =>
                obtain ⟨u, r⟩ := p
                obtain ⟨rfl, hi2⟩ := take_next h2
                have H2 := Aside0.mk h2
                have hum := take_mem h2
                clear h2
                go_upto_region 13 with (first | (go_at_call 34; refine (take_good2 H2.out HT2.out rfl rfl).mono ?_; rintro e_ w13 ⟨rfl, tk_, g_⟩; have TK13 := Aside0.mk tk_; have G13 := Aside0.mk g_; clear tk_ g_) | ((with_reducible refine gate_dst (N := 10) rfl ?_); (try (refine gate_guard (by rfl) ?_; dsimp only)); refine box_event ?hg (N := 10) ?hd (cs := #[.int .i64 0, .int .i64 0, .int .i64 0, .string (⟨#[]⟩ : ByteArray)]) (t := 77) ?hr ?_; (case hd => rfl); (case hg => rfl); (case hr => first | (go_simp; done) | (go_simp; rfl)); intro b10 hg_b10 w14 hbox hb; have BK_b10 := Aside0.mk hbox; have HB_b10 := Aside0.mk hb; have GE_b10 := Aside0.mk (Nat.le_of_eq hg_b10.symm); clear hbox hb hg_b10; have zb100 := (blk_cell BK_b10.out 0).trans (show _ = some (Value.int .i64 0) from rfl); have fb100 := blk_frozen BK_b10.out 0; have zb101 := (blk_cell BK_b10.out 1).trans (show _ = some (Value.int .i64 0) from rfl); have fb101 := blk_frozen BK_b10.out 1; have zb102 := (blk_cell BK_b10.out 2).trans (show _ = some (Value.int .i64 0) from rfl); have fb102 := blk_frozen BK_b10.out 2; have zb103 := (blk_cell BK_b10.out 3).trans (show _ = some (Value.string (⟨#[]⟩ : ByteArray)) from rfl); have fb103 := blk_frozen BK_b10.out 3))
                have hg1 := blk_lt HP12.out.1.1
                refine at_world (F := fun w' => PI w w' bd be ba g m1 m2 g A c T (i + 2) s.size base (.slice A2 d.length c2) d ∧ w'.heap[b9]? = some (.cells (tokC t) 77 (0, 0)) ∧ w'.heap[b10]? = some (.cells (tokC u) 77 (0, 0))) ⟨(HP12.out.took hst TK13.out G13.out).below (below_set (below_set (below_set (below_set HB_b10.out GE_b10.out) GE_b10.out) GE_b10.out) GE_b10.out), blk_below (blk_grown BK12.out G13.out (fun e => L9.out (Option.some.inj e))) (below_set (below_set (below_set (below_set HB_b10.out GE_b10.out) GE_b10.out) GE_b10.out) GE_b10.out), (blk_put (blk_put (blk_put (blk_put BK_b10.out 0 _ rfl) 1 _ rfl) 2 _ rfl) 3 _ rfl)⟩ ?_
                have L10 := Aside0.mk (show b10 ≠ g by have := GE_b10.out; have := G13.out.size; omega)
                clear TK13 G13 BK_b10 HB_b10 GE_b10 zb100 fb100 zb101 fb101 zb102 fb102 zb103 fb103 hg1 HT2 HP12 BK12
                rintro w15 ⟨p_, k_, j_⟩
                have HP15 := Aside0.mk p_
                have BK15 := Aside0.mk k_
                have BL15 := Aside0.mk j_
                clear p_ k_ j_
                by_cases hfl : u.2.text = flagW
                · have HK := Aside0.mk (show kindOf u.2.text = 1 by unfold kindOf; rw [if_pos hfl])
                  have HFL := Aside0.mk hfl
                  clear hfl
                  have k0 := (blk_cell BK15.out 0).trans (show _ = some (Value.int .i64 (t.2.kind : Int)) from rfl)
                  have k1 := (blk_cell BK15.out 1).trans (show _ = some (Value.int .i64 (t.1 : Int)) from rfl)
                  have k2 := (blk_cell BK15.out 2).trans (show _ = some (Value.int .i64 (t.2.n : Int)) from rfl)
                  have k3 := (blk_cell BK15.out 3).trans (show _ = some (Value.string (bs t.2.text)) from rfl)
                  have j0 := (blk_cell BL15.out 0).trans (show _ = some (Value.int .i64 (u.2.kind : Int)) from rfl)
                  have j1 := (blk_cell BL15.out 1).trans (show _ = some (Value.int .i64 (u.1 : Int)) from rfl)
                  have j2 := (blk_cell BL15.out 2).trans (show _ = some (Value.int .i64 (u.2.n : Int)) from rfl)
                  have j3 := (blk_cell BL15.out 3).trans (show _ = some (Value.string (bs u.2.text)) from rfl)
                  have hlk := HP15.out.2.2.2.1.look (x := bs u.2.text) (by rw [bs_size]; exact hsz u hum) (k := 1) (by rw [byts_bs u.2.text]; exact HK.out)
                  go_upto_region 14 with ((with_reducible refine gate_dst (N := 11) rfl ?_); (try (refine gate_guard (by rfl) ?_; dsimp only)); refine box_event ?hg (N := 11) ?hd (cs := #[.string (⟨#[]⟩ : ByteArray), .int .i64 0, .int .i64 0, .int .i64 0]) (t := 42) ?hr ?_; (case hd => rfl); (case hg => rfl); (case hr => first | (go_simp; done) | (go_simp; rfl)); intro b11 hg_b11 w16 hbox hb; have BK_b11 := Aside0.mk hbox; have HB_b11 := Aside0.mk hb; have GE_b11 := Aside0.mk (Nat.le_of_eq hg_b11.symm); clear hbox hb hg_b11; have zb110 := (blk_cell BK_b11.out 0).trans (show _ = some (Value.string (⟨#[]⟩ : ByteArray)) from rfl); have fb110 := blk_frozen BK_b11.out 0; have zb111 := (blk_cell BK_b11.out 1).trans (show _ = some (Value.int .i64 0) from rfl); have fb111 := blk_frozen BK_b11.out 1; have zb112 := (blk_cell BK_b11.out 2).trans (show _ = some (Value.int .i64 0) from rfl); have fb112 := blk_frozen BK_b11.out 2; have zb113 := (blk_cell BK_b11.out 3).trans (show _ = some (Value.int .i64 0) from rfl); have fb113 := blk_frozen BK_b11.out 3)
                  refine at_world (F := fun w' => PI w w' bd be ba g m1 m2 b11 A c T (i + 2) s.size base (.slice A2 d.length c2) d ∧ w'.heap[b10]? = some (.cells (tokC u) 77 (0, 0)) ∧ w'.heap[b11]? = some (.cells #[.string (bs t.2.text), .int .i64 1, .int .i64 0, .int .i64 0] 42 (0, 0)) ∧ w15.heap.size ≤ b11) ⟨HP15.out.mark (below_set (below_set (below_set (below_set HB_b11.out GE_b11.out) GE_b11.out) GE_b11.out) GE_b11.out) GE_b11.out, blk_below BL15.out (below_set (below_set (below_set (below_set HB_b11.out GE_b11.out) GE_b11.out) GE_b11.out) GE_b11.out), (blk_put (blk_put (blk_put (blk_put BK_b11.out 0 _ rfl) 1 _ rfl) 2 _ rfl) 3 _ rfl), GE_b11.out⟩ ?_
                  clear k0 k1 k2 k3 j0 j1 j2 j3 hlk BK_b11 HB_b11 GE_b11 zb110 fb110 zb111 fb111 zb112 fb112 zb113 fb113
                  rintro w17 ⟨p_, k_, j_, l_⟩
                  have HP17 := Aside0.mk p_
                  have BL17 := Aside0.mk k_
                  have BM17 := Aside0.mk j_
                  have LM : b11 ≠ g ∧ b11 ≠ bd ∧ b11 ≠ be ∧ b11 ≠ ba ∧ b11 ≠ m1 ∧ b11 ≠ m2 := by have a1 := HP15.out.2.2.2.2.1.lt; have a2 := HP15.out.2.2.2.1.lt; obtain ⟨s1, s2, s3, s4, s5, s6⟩ := hst; omega
                  have LW : w.heap.size ≤ b11 := by have := HP15.out.2.2.2.2.2.size; omega
                  clear p_ k_ j_ l_ HP15 BL15 BK15
                  have j0 := (blk_cell BL17.out 0).trans (show _ = some (Value.int .i64 (u.2.kind : Int)) from rfl)
                  have j1 := (blk_cell BL17.out 1).trans (show _ = some (Value.int .i64 (u.1 : Int)) from rfl)
                  have j2 := (blk_cell BL17.out 2).trans (show _ = some (Value.int .i64 (u.2.n : Int)) from rfl)
                  have j3 := (blk_cell BL17.out 3).trans (show _ = some (Value.string (bs u.2.text)) from rfl)
                  have m_0 := (blk_cell BM17.out 0).trans (show _ = some (Value.string (bs t.2.text)) from rfl)
                  have m_1 := (blk_cell BM17.out 1).trans (show _ = some (Value.int .i64 1) from rfl)
                  have m_2 := (blk_cell BM17.out 2).trans (show _ = some (Value.int .i64 0) from rfl)
                  have m_3 := (blk_cell BM17.out 3).trans (show _ = some (Value.int .i64 0) from rfl)
                  go_upto_region 15 with (go_at_call 35; refine (check_ok' u _ _).mono ?_; rintro e_ w18 ⟨rfl, b_⟩; have B18 := Aside0.mk b_; clear b_)
                  refine at_world (F := fun w' => PI w w' bd be ba g m1 m2 b11 A c T (i + 2) s.size base (.slice A2 d.length c2) d ∧ w'.heap[b11]? = some (.cells #[.string (bs t.2.text), .int .i64 1, .int .i64 0, .int .i64 0] 42 (0, 0))) ⟨HP17.out.below B18.out, blk_below BM17.out B18.out⟩ ?_
                  clear j0 j1 j2 j3 m_0 m_1 m_2 m_3 HP17 BL17 BM17 B18
                  rintro w19 ⟨p_, j_⟩
                  have HP19 := Aside0.mk p_
                  have BM19 := Aside0.mk j_
                  clear p_ j_
                  have m_0 := (blk_cell BM19.out 0).trans (show _ = some (Value.string (bs t.2.text)) from rfl)
                  have m_1 := (blk_cell BM19.out 1).trans (show _ = some (Value.int .i64 1) from rfl)
                  have m_2 := (blk_cell BM19.out 2).trans (show _ = some (Value.int .i64 0) from rfl)
                  have m_3 := (blk_cell BM19.out 3).trans (show _ = some (Value.int .i64 0) from rfl)
                  have hlw : (Instr.lookup 75 (.map (some m2)) (.int .i64 1) false).run Tryd.prog w19 = .ok (.func (.func 32) #[.pointer (some ⟨g, 0, none⟩)] #[]) w19 := HP19.out.2.2.2.2.1.look (k := 1) (f := 32) (by decide)
                  have ff2 := blk_frozen BM19.out 2
                  have ff3 := blk_frozen BM19.out 3
                  go_upto_region 16 with (go_at_call 32; refine (flag_any g _).mono ?_; rintro e_ wf ⟨rfl, rfl⟩)
                  refine at_world (F := fun w' => PI w w' bd be ba g m1 m2 b11 A c T (i + 2) s.size base (.slice A2 d.length c2) d ∧ w'.heap[b11]? = some (.cells #[.string (bs t.2.text), .int .i64 1, .int .i64 0, .int .i64 1] 42 (0, 0))) ⟨(HP19.out.setx BM19.out LW LM _ _).setx (blk_put BM19.out 2 _ rfl) LW LM _ _, blk_put (blk_put BM19.out 2 _ rfl) 3 _ rfl⟩ ?_
                  clear m_0 m_1 m_2 m_3 ff2 ff3 hlw HP19 BM19
                  rintro w20 ⟨p_, j_⟩
                  have HP20 := Aside0.mk p_
                  have BM20 := Aside0.mk j_
                  have HT3 := Aside0.mk p_.1
                  clear p_ j_
                  cases h3 : take 4 [59] s.size (T.drop (i + 2)) with
                  | error p =>
                    obtain ⟨e, a⟩ := p
                    have H3 := Aside0.mk h3
                    clear h3
                    have hp_ := parse_err HE.out hil (show factS s.size d (T.drop i) = .error (e, a) by unfold factS; rw [H1.out]; show (if _ then _ else _) = _; rw [if_neg HNX.out]; show (if _ then _ else _) = _; rw [if_neg HNL.out]; show (take 1 [] s.size (T.drop (i + 1))).bind _ = _; rw [H2.out]; show (if _ then _ else _) = _; rw [if_pos HFL.out]; show (take 4 [59] s.size (T.drop (i + 2))).bind _ = _; rw [H3.out]; rfl)
                    have hq := e1 _ _ hp_
                    subst hq
                    clear hp_
                    go_wp2_with (go_at_call 34; refine (take_fail2 H3.out hi2 HT3.out rfl rfl).mono ?_; rintro e_ w21 ⟨rfl, g_⟩; have G21 := Aside0.mk g_; clear g_)
                    exact HP20.out.panic hst G21.out e a _ rfl rfl rfl rfl
                  | ok p =>
                    obtain ⟨z, r⟩ := p
                    obtain ⟨rfl, hi3⟩ := take_next h3
                    have H3 := Aside0.mk h3
                    have HN := parse_step HE.out hil (j := i + 3) (by omega) (show factS s.size d (T.drop i) = .ok (⟨t.2.text, 1, 0, 1⟩, T.drop (i + 3)) by unfold factS; rw [H1.out]; show (if _ then _ else _) = _; rw [if_neg HNX.out]; show (if _ then _ else _) = _; rw [if_neg HNL.out]; show (take 1 [] s.size (T.drop (i + 1))).bind _ = _; rw [H2.out]; show (if _ then _ else _) = _; rw [if_pos HFL.out]; show (take 4 [59] s.size (T.drop (i + 2))).bind _ = _; rw [H3.out]; rfl)
                    clear h3
                    go_upto_region 17 with (go_at_call 34; refine (take_good2 H3.out HT3.out rfl rfl).mono ?_; rintro e_ w21 ⟨rfl, tk_, g_⟩; have TK21 := Aside0.mk tk_; have G21 := Aside0.mk g_; clear tk_ g_)
                    refine at_world (F := fun w' => PI w w' bd be ba g m1 m2 b11 A c T (i + 2 + 1) s.size base (.slice A2 d.length c2) d ∧ w'.heap[b11]? = some (.cells #[.string (bs t.2.text), .int .i64 1, .int .i64 0, .int .i64 1] 42 (0, 0))) ⟨HP20.out.took hst TK21.out G21.out, blk_grown BM20.out G21.out (fun e => LM.1 (Option.some.inj e))⟩ ?_
                    clear HP20 BM20 HT3 TK21 G21
                    rintro w22 ⟨p_, j_⟩
                    have HP22 := Aside0.mk p_
                    have BM22 := Aside0.mk j_
                    clear p_ j_
                    have m_0 := (blk_cell BM22.out 0).trans (show _ = some (Value.string (bs t.2.text)) from rfl)
                    have m_1 := (blk_cell BM22.out 1).trans (show _ = some (Value.int .i64 1) from rfl)
                    have m_2 := (blk_cell BM22.out 2).trans (show _ = some (Value.int .i64 0) from rfl)
                    have m_3 := (blk_cell BM22.out 3).trans (show _ = some (Value.int .i64 1) from rfl)
                    have v0 := (blk_cell HP22.out.2.1.1 0).trans (show _ = some (Value.slice A2 d.length c2) from rfl)
                    have vf := blk_frozen HP22.out.2.1.1 0
                    obtain ⟨kf', hkf⟩ := HN
                    have l1 := blk_lt HP22.out.1.1
                    have l2 := blk_lt HP22.out.2.1.1
                    have l3 := blk_lt HP22.out.2.1.2.1
                    have l4 := blk_lt HP22.out.2.1.2.2
                    have l5 := blk_lt BM22.out
                    go_wp2_with ((with_reducible refine gate_builtin (b := .append) (xs := #[.tmp 86, .tmp 88]) rfl ?_); at_builtin; refine Kd.R_append k42 (w0 := w) w.heap.size rfl (.tmp 86) (.tmp 88) 22 42 (.agg #[(.string ⟨#[]⟩), (.int .i64 0), (.int .i64 0), (.int .i64 0)]) 40 rfl Tryd.underlying22 info42 rfl (by decide) (by omega) (.slice A2 d.length c2) (d.map ofF) (⟨bs t.2.text, 1, 0, 1⟩ : S42) [.string (bs t.2.text), .int .i64 1, .int .i64 0, .int .i64 1] (okD bd be ba g b11) (fun _ => False) rfl (by first | (go_simp; done) | (go_simp; rfl)) ?aP (fun _ hk => hk.elim) ?aF ?aO ?aB ?aS ?aL ?_; (case aP => exact k42_mkM _ _ _ (⟨bs t.2.text, 1, 0, 1⟩ : S42)); (case aF => exact (fun k_ hk => by refine ⟨?_, ?_, ?_, ?_, ?_⟩ <;> omega)); (case aO => exact HP22.out.2.2.1); (case aB => exact HP22.out.2.2.2.2.2); (case aS => exact below_size HP22.out.2.2.2.2.2); (case aL => simp; omega); intro v1 w23 ho hb4 hg4 hat; obtain ⟨A3, c3, e3⟩ := Kd.R_slice ho; rw [List.length_append, List.length_map, List.length_singleton] at e3; subst e3; have HO4 := Aside0.mk ho; have HB4 := Aside0.mk hb4; have HG4 := Aside0.mk hg4; have nbd : some bd ≠ (Value.slice A2 d.length c2).ownBlock := Kd.R_away HP22.out.2.2.1 (fun k hk => hk.2.1); have y0 := (blk_cell (blk_grown HP22.out.2.1.1 hg4 nbd) 0).trans (show _ = some (Value.slice A2 d.length c2) from rfl); have yf := blk_frozen (blk_grown HP22.out.2.1.1 hg4 nbd) 0; clear ho hb4 hg4 hat nbd)
                    have HPp := Aside0.mk (HP22.out.push (f := ⟨t.2.text, 1, 0, 1⟩) hst (by rw [List.map_append]; exact HO4.out) HB4.out HG4.out)
                    go_roundg k1
                    case measure => omega
                    case rel => exact ⟨i + 3, kf', d ++ [⟨t.2.text, 1, 0, 1⟩], .slice A3 (d.length + 1) c3, by omega, by omega, ⟨HPp.out.unmark⟩, ⟨hkf⟩, ⟨by have := HL.out; rw [List.length_append, List.length_singleton]; omega⟩⟩
                · have HNF := Aside0.mk hfl
                  by_cases hnu : u.2.text = numW
                  · have HK := Aside0.mk (show kindOf u.2.text = 2 by unfold kindOf; rw [if_neg hfl, if_pos hnu])
                    have HNU := Aside0.mk hnu
                    clear hfl hnu
                    have k0 := (blk_cell BK15.out 0).trans (show _ = some (Value.int .i64 (t.2.kind : Int)) from rfl)
                    have k1 := (blk_cell BK15.out 1).trans (show _ = some (Value.int .i64 (t.1 : Int)) from rfl)
                    have k2 := (blk_cell BK15.out 2).trans (show _ = some (Value.int .i64 (t.2.n : Int)) from rfl)
                    have k3 := (blk_cell BK15.out 3).trans (show _ = some (Value.string (bs t.2.text)) from rfl)
                    have j0 := (blk_cell BL15.out 0).trans (show _ = some (Value.int .i64 (u.2.kind : Int)) from rfl)
                    have j1 := (blk_cell BL15.out 1).trans (show _ = some (Value.int .i64 (u.1 : Int)) from rfl)
                    have j2 := (blk_cell BL15.out 2).trans (show _ = some (Value.int .i64 (u.2.n : Int)) from rfl)
                    have j3 := (blk_cell BL15.out 3).trans (show _ = some (Value.string (bs u.2.text)) from rfl)
                    have hlk := HP15.out.2.2.2.1.look (x := bs u.2.text) (by rw [bs_size]; exact hsz u hum) (k := 2) (by rw [byts_bs u.2.text]; exact HK.out)
                    go_upto_region 14 with ((with_reducible refine gate_dst (N := 11) rfl ?_); (try (refine gate_guard (by rfl) ?_; dsimp only)); refine box_event ?hg (N := 11) ?hd (cs := #[.string (⟨#[]⟩ : ByteArray), .int .i64 0, .int .i64 0, .int .i64 0]) (t := 42) ?hr ?_; (case hd => rfl); (case hg => rfl); (case hr => first | (go_simp; done) | (go_simp; rfl)); intro b11 hg_b11 w16 hbox hb; have BK_b11 := Aside0.mk hbox; have HB_b11 := Aside0.mk hb; have GE_b11 := Aside0.mk (Nat.le_of_eq hg_b11.symm); clear hbox hb hg_b11; have zb110 := (blk_cell BK_b11.out 0).trans (show _ = some (Value.string (⟨#[]⟩ : ByteArray)) from rfl); have fb110 := blk_frozen BK_b11.out 0; have zb111 := (blk_cell BK_b11.out 1).trans (show _ = some (Value.int .i64 0) from rfl); have fb111 := blk_frozen BK_b11.out 1; have zb112 := (blk_cell BK_b11.out 2).trans (show _ = some (Value.int .i64 0) from rfl); have fb112 := blk_frozen BK_b11.out 2; have zb113 := (blk_cell BK_b11.out 3).trans (show _ = some (Value.int .i64 0) from rfl); have fb113 := blk_frozen BK_b11.out 3)
                    refine at_world (F := fun w' => PI w w' bd be ba g m1 m2 b11 A c T (i + 2) s.size base (.slice A2 d.length c2) d ∧ w'.heap[b10]? = some (.cells (tokC u) 77 (0, 0)) ∧ w'.heap[b11]? = some (.cells #[.string (bs t.2.text), .int .i64 2, .int .i64 0, .int .i64 0] 42 (0, 0)) ∧ w15.heap.size ≤ b11) ⟨HP15.out.mark (below_set (below_set (below_set (below_set HB_b11.out GE_b11.out) GE_b11.out) GE_b11.out) GE_b11.out) GE_b11.out, blk_below BL15.out (below_set (below_set (below_set (below_set HB_b11.out GE_b11.out) GE_b11.out) GE_b11.out) GE_b11.out), (blk_put (blk_put (blk_put (blk_put BK_b11.out 0 _ rfl) 1 _ rfl) 2 _ rfl) 3 _ rfl), GE_b11.out⟩ ?_
                    clear k0 k1 k2 k3 j0 j1 j2 j3 hlk BK_b11 HB_b11 GE_b11 zb110 fb110 zb111 fb111 zb112 fb112 zb113 fb113
                    rintro w17 ⟨p_, k_, j_, l_⟩
                    have HP17 := Aside0.mk p_
                    have BL17 := Aside0.mk k_
                    have BM17 := Aside0.mk j_
                    have LM : b11 ≠ g ∧ b11 ≠ bd ∧ b11 ≠ be ∧ b11 ≠ ba ∧ b11 ≠ m1 ∧ b11 ≠ m2 := by have a1 := HP15.out.2.2.2.2.1.lt; have a2 := HP15.out.2.2.2.1.lt; obtain ⟨s1, s2, s3, s4, s5, s6⟩ := hst; omega
                    have LW : w.heap.size ≤ b11 := by have := HP15.out.2.2.2.2.2.size; omega
                    clear p_ k_ j_ l_ HP15 BL15 BK15
                    have j0 := (blk_cell BL17.out 0).trans (show _ = some (Value.int .i64 (u.2.kind : Int)) from rfl)
                    have j1 := (blk_cell BL17.out 1).trans (show _ = some (Value.int .i64 (u.1 : Int)) from rfl)
                    have j2 := (blk_cell BL17.out 2).trans (show _ = some (Value.int .i64 (u.2.n : Int)) from rfl)
                    have j3 := (blk_cell BL17.out 3).trans (show _ = some (Value.string (bs u.2.text)) from rfl)
                    have m_0 := (blk_cell BM17.out 0).trans (show _ = some (Value.string (bs t.2.text)) from rfl)
                    have m_1 := (blk_cell BM17.out 1).trans (show _ = some (Value.int .i64 2) from rfl)
                    have m_2 := (blk_cell BM17.out 2).trans (show _ = some (Value.int .i64 0) from rfl)
                    have m_3 := (blk_cell BM17.out 3).trans (show _ = some (Value.int .i64 0) from rfl)
                    go_upto_region 15 with (go_at_call 35; refine (check_ok' u _ _).mono ?_; rintro e_ w18 ⟨rfl, b_⟩; have B18 := Aside0.mk b_; clear b_)
                    refine at_world (F := fun w' => PI w w' bd be ba g m1 m2 b11 A c T (i + 2) s.size base (.slice A2 d.length c2) d ∧ w'.heap[b11]? = some (.cells #[.string (bs t.2.text), .int .i64 2, .int .i64 0, .int .i64 0] 42 (0, 0))) ⟨HP17.out.below B18.out, blk_below BM17.out B18.out⟩ ?_
                    clear j0 j1 j2 j3 m_0 m_1 m_2 m_3 HP17 BL17 BM17 B18
                    rintro w19 ⟨p_, j_⟩
                    have HP19 := Aside0.mk p_
                    have BM19 := Aside0.mk j_
                    clear p_ j_
                    have m_0 := (blk_cell BM19.out 0).trans (show _ = some (Value.string (bs t.2.text)) from rfl)
                    have m_1 := (blk_cell BM19.out 1).trans (show _ = some (Value.int .i64 2) from rfl)
                    have m_2 := (blk_cell BM19.out 2).trans (show _ = some (Value.int .i64 0) from rfl)
                    have m_3 := (blk_cell BM19.out 3).trans (show _ = some (Value.int .i64 0) from rfl)
                    have hlw : (Instr.lookup 75 (.map (some m2)) (.int .i64 2) false).run Tryd.prog w19 = .ok (.func (.func 33) #[.pointer (some ⟨g, 0, none⟩)] #[]) w19 := HP19.out.2.2.2.2.1.look (k := 2) (f := 33) (by decide)
                    cases h3 : spanS s.size (T.drop (i + 2)) with
                    | error p =>
                      obtain ⟨e, a⟩ := p
                      have HS := Aside0.mk h3
                      clear h3
                      have hp_ := parse_err HE.out hil (show factS s.size d (T.drop i) = .error (e, a) by unfold factS; rw [H1.out]; show (if _ then _ else _) = _; rw [if_neg HNX.out]; show (if _ then _ else _) = _; rw [if_neg HNL.out]; show (take 1 [] s.size (T.drop (i + 1))).bind _ = _; rw [H2.out]; show (if _ then _ else _) = _; rw [if_neg HNF.out]; show (if _ then _ else _) = _; rw [if_pos HNU.out]; show (spanS s.size (T.drop (i + 2))).bind _ = _; rw [HS.out]; rfl)
                      have hq := e1 _ _ hp_
                      subst hq
                      clear hp_
                      go_wp2_with (go_at_call 33; refine (span_bad HS.out hi2 g A c base _ HP19.out.1).mono ?_; rintro e_ wf ⟨rfl, g_⟩)
                      exact HP19.out.panic hst g_ e a _ rfl rfl rfl rfl
                    | ok p =>
                      obtain ⟨⟨lo, hi_⟩, r⟩ := p
                      have HS := Aside0.mk h3
                      have hsr := span_next h3
                      obtain ⟨rfl, hi5⟩ := hsr
                      clear h3
                      have ff2 := blk_frozen BM19.out 2
                      have ff3 := blk_frozen BM19.out 3
                      go_upto_region 16 with (go_at_call 33; refine (span_good HS.out hi2 g A c base _ HP19.out.1).mono ?_; rintro e_ wf ⟨rfl, tk_, g_⟩; have TKf := Aside0.mk tk_; have Gf := Aside0.mk g_; have BMf := Aside0.mk (blk_grown BM19.out g_ (fun e => LM.1 (Option.some.inj e))); have gg2 := blk_frozen BMf.out 2; have gg3 := blk_frozen BMf.out 3; have n2_ := (blk_cell BMf.out 2).trans (show _ = some (Value.int .i64 0) from rfl); have n3_ := (blk_cell BMf.out 3).trans (show _ = some (Value.int .i64 0) from rfl); clear tk_ g_)
                      have HPf := Aside0.mk (HP19.out.took hst TKf.out Gf.out)
                      refine at_world (F := fun w' => PI w w' bd be ba g m1 m2 b11 A c T (i + 2 + 3) s.size base (.slice A2 d.length c2) d ∧ w'.heap[b11]? = some (.cells #[.string (bs t.2.text), .int .i64 2, .int .i64 (lo : Int), .int .i64 (hi_ : Int)] 42 (0, 0))) ⟨(HPf.out.setx BMf.out LW LM _ _).setx (blk_put BMf.out 2 _ rfl) LW LM _ _, blk_put (blk_put BMf.out 2 _ rfl) 3 _ rfl⟩ ?_
                      clear m_0 m_1 m_2 m_3 ff2 ff3 hlw HP19 BM19 TKf Gf BMf HPf gg2 gg3 n2_ n3_
                      rintro w20 ⟨p_, j_⟩
                      have HP20 := Aside0.mk p_
                      have BM20 := Aside0.mk j_
                      have HT3 := Aside0.mk p_.1
                      clear p_ j_
                      cases h4 : take 4 [59] s.size (T.drop (i + 2 + 3)) with
                      | error p =>
                        obtain ⟨e, a⟩ := p
                        have H4 := Aside0.mk h4
                        clear h4
                        have hp_ := parse_err HE.out hil (show factS s.size d (T.drop i) = .error (e, a) by unfold factS; rw [H1.out]; show (if _ then _ else _) = _; rw [if_neg HNX.out]; show (if _ then _ else _) = _; rw [if_neg HNL.out]; show (take 1 [] s.size (T.drop (i + 1))).bind _ = _; rw [H2.out]; show (if _ then _ else _) = _; rw [if_neg HNF.out]; show (if _ then _ else _) = _; rw [if_pos HNU.out]; show (spanS s.size (T.drop (i + 2))).bind _ = _; rw [HS.out]; show (take 4 [59] s.size (T.drop (i + 2 + 3))).bind _ = _; rw [H4.out]; rfl)
                        have hq := e1 _ _ hp_
                        subst hq
                        clear hp_
                        go_wp2_with (go_at_call 34; refine (take_fail2 H4.out hi5 HT3.out rfl rfl).mono ?_; rintro e_ w21 ⟨rfl, g_⟩; have G21 := Aside0.mk g_; clear g_)
                        exact HP20.out.panic hst G21.out e a _ rfl rfl rfl rfl
                      | ok p =>
                        obtain ⟨z, r⟩ := p
                        obtain ⟨rfl, hi6⟩ := take_next h4
                        have H4 := Aside0.mk h4
                        have HN := parse_step HE.out hil (j := i + 2 + 3 + 1) (by omega) (show factS s.size d (T.drop i) = .ok (⟨t.2.text, 2, lo, hi_⟩, T.drop (i + 2 + 3 + 1)) by unfold factS; rw [H1.out]; show (if _ then _ else _) = _; rw [if_neg HNX.out]; show (if _ then _ else _) = _; rw [if_neg HNL.out]; show (take 1 [] s.size (T.drop (i + 1))).bind _ = _; rw [H2.out]; show (if _ then _ else _) = _; rw [if_neg HNF.out]; show (if _ then _ else _) = _; rw [if_pos HNU.out]; show (spanS s.size (T.drop (i + 2))).bind _ = _; rw [HS.out]; show (take 4 [59] s.size (T.drop (i + 2 + 3))).bind _ = _; rw [H4.out]; rfl)
                        clear h4
                        go_upto_region 17 with (go_at_call 34; refine (take_good2 H4.out HT3.out rfl rfl).mono ?_; rintro e_ w21 ⟨rfl, tk_, g_⟩; have TK21 := Aside0.mk tk_; have G21 := Aside0.mk g_; clear tk_ g_)
                        refine at_world (F := fun w' => PI w w' bd be ba g m1 m2 b11 A c T (i + 2 + 3 + 1) s.size base (.slice A2 d.length c2) d ∧ w'.heap[b11]? = some (.cells #[.string (bs t.2.text), .int .i64 2, .int .i64 (lo : Int), .int .i64 (hi_ : Int)] 42 (0, 0))) ⟨HP20.out.took hst TK21.out G21.out, blk_grown BM20.out G21.out (fun e => LM.1 (Option.some.inj e))⟩ ?_
                        clear HP20 BM20 HT3 TK21 G21
                        rintro w22 ⟨p_, j_⟩
                        have HP22 := Aside0.mk p_
                        have BM22 := Aside0.mk j_
                        clear p_ j_
                        have m_0 := (blk_cell BM22.out 0).trans (show _ = some (Value.string (bs t.2.text)) from rfl)
                        have m_1 := (blk_cell BM22.out 1).trans (show _ = some (Value.int .i64 2) from rfl)
                        have m_2 := (blk_cell BM22.out 2).trans (show _ = some (Value.int .i64 (lo : Int)) from rfl)
                        have m_3 := (blk_cell BM22.out 3).trans (show _ = some (Value.int .i64 (hi_ : Int)) from rfl)
                        have v0 := (blk_cell HP22.out.2.1.1 0).trans (show _ = some (Value.slice A2 d.length c2) from rfl)
                        have vf := blk_frozen HP22.out.2.1.1 0
                        obtain ⟨kf', hkf⟩ := HN
                        have l1 := blk_lt HP22.out.1.1
                        have l2 := blk_lt HP22.out.2.1.1
                        have l3 := blk_lt HP22.out.2.1.2.1
                        have l4 := blk_lt HP22.out.2.1.2.2
                        have l5 := blk_lt BM22.out
                        go_wp2_with ((with_reducible refine gate_builtin (b := .append) (xs := #[.tmp 86, .tmp 88]) rfl ?_); at_builtin; refine Kd.R_append k42 (w0 := w) w.heap.size rfl (.tmp 86) (.tmp 88) 22 42 (.agg #[(.string ⟨#[]⟩), (.int .i64 0), (.int .i64 0), (.int .i64 0)]) 40 rfl Tryd.underlying22 info42 rfl (by decide) (by omega) (.slice A2 d.length c2) (d.map ofF) (⟨bs t.2.text, 2, (lo : Int), (hi_ : Int)⟩ : S42) [.string (bs t.2.text), .int .i64 2, .int .i64 (lo : Int), .int .i64 (hi_ : Int)] (okD bd be ba g b11) (fun _ => False) rfl (by first | (go_simp; done) | (go_simp; rfl)) ?aP (fun _ hk => hk.elim) ?aF ?aO ?aB ?aS ?aL ?_; (case aP => exact k42_mkM _ _ _ (⟨bs t.2.text, 2, (lo : Int), (hi_ : Int)⟩ : S42)); (case aF => exact (fun k_ hk => by refine ⟨?_, ?_, ?_, ?_, ?_⟩ <;> omega)); (case aO => exact HP22.out.2.2.1); (case aB => exact HP22.out.2.2.2.2.2); (case aS => exact below_size HP22.out.2.2.2.2.2); (case aL => simp; omega); intro v1 w23 ho hb4 hg4 hat; obtain ⟨A3, c3, e3⟩ := Kd.R_slice ho; rw [List.length_append, List.length_map, List.length_singleton] at e3; subst e3; have HO4 := Aside0.mk ho; have HB4 := Aside0.mk hb4; have HG4 := Aside0.mk hg4; have nbd : some bd ≠ (Value.slice A2 d.length c2).ownBlock := Kd.R_away HP22.out.2.2.1 (fun k hk => hk.2.1); have y0 := (blk_cell (blk_grown HP22.out.2.1.1 hg4 nbd) 0).trans (show _ = some (Value.slice A2 d.length c2) from rfl); have yf := blk_frozen (blk_grown HP22.out.2.1.1 hg4 nbd) 0; clear ho hb4 hg4 hat nbd)
                        have HPp := Aside0.mk (HP22.out.push (f := ⟨t.2.text, 2, (lo : Int), (hi_ : Int)⟩) hst (by rw [List.map_append]; exact HO4.out) HB4.out HG4.out)
                        go_roundg k1
                        case measure => omega
                        case rel => exact ⟨i + 2 + 3 + 1, kf', d ++ [⟨t.2.text, 2, (lo : Int), (hi_ : Int)⟩], .slice A3 (d.length + 1) c3, by omega, by omega, ⟨HPp.out.unmark⟩, ⟨hkf⟩, ⟨by have := HL.out; rw [List.length_append, List.length_singleton]; omega⟩⟩
                  · have HK := Aside0.mk (show kindOf u.2.text = 0 by unfold kindOf; rw [if_neg hfl, if_neg hnu])
                    have HNN := Aside0.mk hnu
                    clear hfl hnu
                    have hp_ := parse_err HE.out hil (show factS s.size d (T.drop i) = .error (5, u.1) by unfold factS; rw [H1.out]; show (if _ then _ else _) = _; rw [if_neg HNX.out]; show (if _ then _ else _) = _; rw [if_neg HNL.out]; show (take 1 [] s.size (T.drop (i + 1))).bind _ = _; rw [H2.out]; show (if _ then _ else _) = _; rw [if_neg HNF.out]; show (if _ then _ else _) = _; rw [if_neg HNN.out])
                    have hq := e1 _ _ hp_
                    subst hq
                    clear hp_
                    have k0 := (blk_cell BK15.out 0).trans (show _ = some (Value.int .i64 (t.2.kind : Int)) from rfl)
                    have k1 := (blk_cell BK15.out 1).trans (show _ = some (Value.int .i64 (t.1 : Int)) from rfl)
                    have k2 := (blk_cell BK15.out 2).trans (show _ = some (Value.int .i64 (t.2.n : Int)) from rfl)
                    have k3 := (blk_cell BK15.out 3).trans (show _ = some (Value.string (bs t.2.text)) from rfl)
                    have j0 := (blk_cell BL15.out 0).trans (show _ = some (Value.int .i64 (u.2.kind : Int)) from rfl)
                    have j1 := (blk_cell BL15.out 1).trans (show _ = some (Value.int .i64 (u.1 : Int)) from rfl)
                    have j2 := (blk_cell BL15.out 2).trans (show _ = some (Value.int .i64 (u.2.n : Int)) from rfl)
                    have j3 := (blk_cell BL15.out 3).trans (show _ = some (Value.string (bs u.2.text)) from rfl)
                    have hlk := HP15.out.2.2.2.1.look (x := bs u.2.text) (by rw [bs_size]; exact hsz u hum) (k := 0) (by rw [byts_bs u.2.text]; exact HK.out)
                    go_upto_region 14 with ((with_reducible refine gate_dst (N := 11) rfl ?_); (try (refine gate_guard (by rfl) ?_; dsimp only)); refine box_event ?hg (N := 11) ?hd (cs := #[.string (⟨#[]⟩ : ByteArray), .int .i64 0, .int .i64 0, .int .i64 0]) (t := 42) ?hr ?_; (case hd => rfl); (case hg => rfl); (case hr => first | (go_simp; done) | (go_simp; rfl)); intro b11 hg_b11 w16 hbox hb; have BK_b11 := Aside0.mk hbox; have HB_b11 := Aside0.mk hb; have GE_b11 := Aside0.mk (Nat.le_of_eq hg_b11.symm); clear hbox hb hg_b11; have zb110 := (blk_cell BK_b11.out 0).trans (show _ = some (Value.string (⟨#[]⟩ : ByteArray)) from rfl); have fb110 := blk_frozen BK_b11.out 0; have zb111 := (blk_cell BK_b11.out 1).trans (show _ = some (Value.int .i64 0) from rfl); have fb111 := blk_frozen BK_b11.out 1; have zb112 := (blk_cell BK_b11.out 2).trans (show _ = some (Value.int .i64 0) from rfl); have fb112 := blk_frozen BK_b11.out 2; have zb113 := (blk_cell BK_b11.out 3).trans (show _ = some (Value.int .i64 0) from rfl); have fb113 := blk_frozen BK_b11.out 3)
                    refine at_world (F := fun w' => PI w w' bd be ba g m1 m2 b11 A c T (i + 2) s.size base (.slice A2 d.length c2) d ∧ w'.heap[b10]? = some (.cells (tokC u) 77 (0, 0)) ∧ w'.heap[b11]? = some (.cells #[.string (bs t.2.text), .int .i64 0, .int .i64 0, .int .i64 0] 42 (0, 0)) ∧ w15.heap.size ≤ b11) ⟨HP15.out.mark (below_set (below_set (below_set (below_set HB_b11.out GE_b11.out) GE_b11.out) GE_b11.out) GE_b11.out) GE_b11.out, blk_below BL15.out (below_set (below_set (below_set (below_set HB_b11.out GE_b11.out) GE_b11.out) GE_b11.out) GE_b11.out), (blk_put (blk_put (blk_put (blk_put BK_b11.out 0 _ rfl) 1 _ rfl) 2 _ rfl) 3 _ rfl), GE_b11.out⟩ ?_
                    clear k0 k1 k2 k3 j0 j1 j2 j3 hlk BK_b11 HB_b11 GE_b11 zb110 fb110 zb111 fb111 zb112 fb112 zb113 fb113
                    rintro w17 ⟨p_, k_, j_, l_⟩
                    have HP17 := Aside0.mk p_
                    have BL17 := Aside0.mk k_
                    have BM17 := Aside0.mk j_
                    have LM : b11 ≠ g ∧ b11 ≠ bd ∧ b11 ≠ be ∧ b11 ≠ ba ∧ b11 ≠ m1 ∧ b11 ≠ m2 := by have a1 := HP15.out.2.2.2.2.1.lt; have a2 := HP15.out.2.2.2.1.lt; obtain ⟨s1, s2, s3, s4, s5, s6⟩ := hst; omega
                    have LW : w.heap.size ≤ b11 := by have := HP15.out.2.2.2.2.2.size; omega
                    clear p_ k_ j_ l_ HP15 BL15 BK15
                    have j0 := (blk_cell BL17.out 0).trans (show _ = some (Value.int .i64 (u.2.kind : Int)) from rfl)
                    have j1 := (blk_cell BL17.out 1).trans (show _ = some (Value.int .i64 (u.1 : Int)) from rfl)
                    have j2 := (blk_cell BL17.out 2).trans (show _ = some (Value.int .i64 (u.2.n : Int)) from rfl)
                    have j3 := (blk_cell BL17.out 3).trans (show _ = some (Value.string (bs u.2.text)) from rfl)
                    have m_0 := (blk_cell BM17.out 0).trans (show _ = some (Value.string (bs t.2.text)) from rfl)
                    have m_1 := (blk_cell BM17.out 1).trans (show _ = some (Value.int .i64 0) from rfl)
                    have m_2 := (blk_cell BM17.out 2).trans (show _ = some (Value.int .i64 0) from rfl)
                    have m_3 := (blk_cell BM17.out 3).trans (show _ = some (Value.int .i64 0) from rfl)
                    go_wp2_with (go_at_call 35; refine (check_bad' u _ _).mono ?_; rintro e_ w18 ⟨rfl, b_⟩; have B18 := Aside0.mk b_; clear b_)
                    exact HP17.out.panic hst (grown_of_below B18.out _) 5 u.1 _ rfl rfl rfl rfl
    · skip
      have hd1 : decide ((i : Int) < (T.length : Int)) = false := decide_eq_false (by omega)
      have hd2 : decide (i < T.length) = false := decide_eq_false hil
      have hp_ : parse s.size T = .ok d := by rw [← HE.out.2, List.drop_of_length_le (by omega)]; cases kf <;> rfl
      have hq := e2 _ hp_
      subst hq
      clear hp_
      obtain ⟨A2, c2, hv2⟩ := Kd.R_slice HP.out.2.2.1
      rw [List.length_map] at hv2
      have hres := HP.out.2.1
      have v0 := (blk_cell hres.1 0).trans (show _ = some vd from rfl)
      have v1 := (blk_cell hres.2.1 0).trans (show _ = some (Value.int .i64 0) from rfl)
      have v2 := (blk_cell hres.2.2 0).trans (show _ = some (Value.int .i64 0) from rfl)
      have f0 := blk_frozen hres.1 0
      have f1 := blk_frozen hres.2.1 0
      have f2 := blk_frozen hres.2.2 0
      have HR := Aside0.mk hres
      clear hres
      have a1 : bd ≠ be := Nat.ne_of_lt n1
      have a2 : be ≠ ba := Nat.ne_of_lt n2
      have a3 : bd ≠ ba := by omega
      have a4 : be ≠ bd := fun x => a1 x.symm
      have a5 : ba ≠ be := fun x => a2 x.symm
      have a6 : ba ≠ bd := fun x => a3 x.symm
      subst hv2
      go_wp2
      refine parse_ret bd be ba _ 0 0 (d.map ofF) w _ _ rfl rfl rfl rfl ⟨blk_far (blk_far (blk_put HR.out.1 0 _ rfl) (p := ⟨be, 0, none⟩) a1 _) (p := ⟨ba, 0, none⟩) a3 _, blk_far (blk_put (blk_far HR.out.2.1 (p := ⟨bd, 0, none⟩) a4 _) 0 _ rfl) (p := ⟨ba, 0, none⟩) a2 _, blk_put (blk_far (blk_far HR.out.2.2 (p := ⟨bd, 0, none⟩) a6 _) (p := ⟨be, 0, none⟩) a5 _) 0 _ rfl⟩ (Kd.R_mono (Kd.R_far (Kd.R_far (Kd.R_far HP.out.2.2.1 (p := ⟨bd, 0, none⟩) (fun k hk => hk.2.1) _) (p := ⟨be, 0, none⟩) (fun k hk => hk.2.2.1) _) (p := ⟨ba, 0, none⟩) (fun k hk => hk.2.2.2.1) _) (fun _ _ => trivial)) (below_set (below_set (below_set HP.out.2.2.2.2.2 (by omega)) (by omega)) (by omega))
end Go.Proofs.YtgddmfphlhlcjaaDoor.FcW
