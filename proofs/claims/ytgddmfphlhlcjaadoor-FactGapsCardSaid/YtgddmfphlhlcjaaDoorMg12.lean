/- fact.Parse.
fact.Parse tells what the plain reader of facts tells, of any text.
fact.ParseCase: the ways out.
fact.ParseCase: a domain that is not valid, and a text that the lexer refuses.
fact.ParseCase: the map of the facts that still lack a value.
fact.ParseCase: what holds at each round of its loops. -/
import Derived.Test.YtgddmfphlhlcjaaDoorMg10
import Derived.Test.YtgddmfphlhlcjaaDoorMg11
namespace Go.Proofs.YtgddmfphlhlcjaaDoor.FcW
open Go.RowKit Go.Proofs.YtgddmfphlhlcjaaDoorW.PrintWords Go.Proofs.YtgddmfphlhlcjaaDoorW.PrintLast Go.Proofs.YtgddmfphlhlcjaaDoorW.PrintMore
open Go.Proofs.YtgddmfphlhlcjaaDoor Go.Proofs.YtgddmfphlhlcjaaDoor.PF Go.Proofs.YtgddmfphlhlcjaaDoor.LxP Go.Proofs.YtgddmfphlhlcjaaDoor.LxW Go.Proofs.YtgddmfphlhlcjaaDoor.FcP
set_option linter.unusedVariables false
set_option linter.unusedSimpArgs false

set_option maxHeartbeats 16000000 in
set_option maxRecDepth 100000 in
theorem parse_unlexed (s : ByteArray) (w : World) (e a : Int) (h : lexT s = ([], e, a)) (he : (e != 0) = true) : Calls Tryd.prog 12 #[.string s] w (PSays ([], e, a) w) := by
  have hmf : ∀ (fn : Fn) (first cap : Array Value) (w : World), (Instr.makeFunc fn first cap).run Tryd.prog w = .ok (.func fn first cap) w := fun _ _ _ _ => rfl
  have hmm := @run_makeMap Tryd.prog
  go_enter_defers Tryd.func12, Tryd.ntmps12
  go_upto_region 1 with (first | ((with_reducible refine gate_dst (N := 2) rfl ?_); (try (refine gate_guard (by rfl) ?_; dsimp only)); refine box_event ?hg (N := 2) ?hd (cs := #[.slice none 0 0]) (t := 24) ?hr ?_; (case hd => rfl); (case hg => rfl); (case hr => first | (go_simp; done) | (go_simp; rfl)); intro bd hg_bd wa hbox hb; have BK_bd := Aside0.mk hbox; have HB_bd := Aside0.mk hb; have GE_bd := Aside0.mk (Nat.le_of_eq hg_bd.symm); clear hbox hb hg_bd) | ((with_reducible refine gate_dst (N := 3) rfl ?_); (try (refine gate_guard (by rfl) ?_; dsimp only)); refine box_event ?hg (N := 3) ?hd (cs := #[.int .i64 0]) (t := 29) ?hr ?_; (case hd => rfl); (case hg => rfl); (case hr => first | (go_simp; done) | (go_simp; rfl)); intro be hg_be wb hbox hb; have BK_be := Aside0.mk hbox; have HB_be := Aside0.mk hb; have GE_be := Aside0.mk (Nat.le_of_eq hg_be.symm); clear hbox hb hg_be) | ((with_reducible refine gate_dst (N := 4) rfl ?_); (try (refine gate_guard (by rfl) ?_; dsimp only)); refine box_event ?hg (N := 4) ?hd (cs := #[.int .i64 0]) (t := 3) ?hr ?_; (case hd => rfl); (case hg => rfl); (case hr => first | (go_simp; done) | (go_simp; rfl)); intro ba hg_ba wc hbox hb; have BK_ba := Aside0.mk hbox; have HB_ba := Aside0.mk hb; have GE_ba := Aside0.mk (Nat.le_of_eq hg_ba.symm); clear hbox hb hg_ba))
  have la := blk_lt BK_bd.out
  have lb := blk_lt BK_be.out
  have n1 : bd < be := by have := GE_be.out; omega
  have n2 : be < ba := by have := GE_ba.out; omega
  have GD : w.heap.size ≤ bd := GE_bd.out
  refine at_world (F := fun w' => Res w' bd be ba 24 (.slice none 0 0) 0 0 ∧ Below w.heap.size w w') ⟨⟨blk_below (blk_below BK_bd.out HB_be.out) HB_ba.out, blk_below BK_be.out HB_ba.out, BK_ba.out⟩, below_step (below_step HB_bd.out HB_be.out) HB_ba.out⟩ ?_
  clear BK_bd HB_bd GE_bd BK_be HB_be GE_be BK_ba HB_ba GE_ba la lb
  rintro w0 ⟨hR0, hB0⟩
  have R0 := Aside0.mk hR0
  have B0 := Aside0.mk hB0
  clear hR0 hB0
  go_upto_region 2 with (first | (go_at_call 21; refine (lex_any s _).mono ?_; rw [h]; rintro e_ w1 ⟨v, rfl, hv, hb⟩; obtain ⟨A, c, rfl⟩ := Kd.R_slice hv; have HV := Aside0.mk hv; have HB := Aside0.mk hb; have c1 := (blk_cell (R0.out.below hb).2.1 0).trans (show _ = some (Value.int .i64 0) from rfl); have f1 := blk_frozen (R0.out.below hb).2.1 0; have c2 := (blk_cell (R0.out.below hb).2.2 0).trans (show _ = some (Value.int .i64 0) from rfl); have f2 := blk_frozen (R0.out.below hb).2.2 0; have n3 : be ≠ ba := Nat.ne_of_lt n2; have n4 : ba ≠ be := fun x => n3 x.symm; clear hv hb))
  have lbe := blk_lt R0.out.2.1
  have lba := blk_lt R0.out.2.2
  refine at_world (F := fun w' => Res w' bd be ba 24 (.slice none 0 0) e a ∧ Below w.heap.size w w') ⟨⟨blk_far (blk_far (R0.out.below HB.out).1 (p := ⟨be, 0, none⟩) (Nat.ne_of_lt n1) _) (p := ⟨ba, 0, none⟩) (by show bd ≠ ba; omega) _, blk_far (blk_put (R0.out.below HB.out).2.1 0 _ rfl) (p := ⟨ba, 0, none⟩) n3 _, blk_put (blk_far (R0.out.below HB.out).2.2 (p := ⟨be, 0, none⟩) n4 _) 0 _ rfl⟩, below_set (below_set (below_step B0.out HB.out) (by omega)) (by omega)⟩ ?_
  clear HV HB c1 f1 c2 f2 R0 B0 lbe lba w0
  rintro w3 ⟨r_, b_⟩
  have R3 := Aside0.mk r_
  have B3 := Aside0.mk b_
  clear r_ b_
  have q1 := (blk_cell R3.out.2.1 0).trans (show _ = some (Value.int .i64 e) from rfl)
  go_upto_region 3 with (fail)
  have q0 := (blk_cell R3.out.1 0).trans (show _ = some (Value.slice none 0 0) from rfl)
  have q2 := (blk_cell R3.out.2.2 0).trans (show _ = some (Value.int .i64 a) from rfl)
  have m3 : bd ≠ ba := by omega
  have m1 : bd ≠ be := by omega
  have m4 : be ≠ bd := fun x => m1 x.symm
  have m5 : ba ≠ bd := fun x => m3 x.symm
  refine start_ (n := 6) (S := fun w' => w'.cell? ⟨bd, 0, none⟩ = some (.slice none 0 0) ∧ w'.cell? ⟨be, 0, none⟩ = some (.int .i64 e) ∧ w'.cell? ⟨ba, 0, none⟩ = some (.int .i64 a)) (ds := [5]) #[false, false, false, false, false, false] (by kernel_rfl) rfl rfl ⟨q0, q1, q2⟩ (fun hHeld => ?_)
  obtain ⟨wd, hwd⟩ : ∃ wd, w3.drew = wd := ⟨_, rfl⟩
  have RD := Aside0.mk (show Res wd bd be ba 24 (.slice none 0 0) e a by rw [← hwd]; exact ⟨blk_drew R3.out.1, blk_drew R3.out.2.1, blk_drew R3.out.2.2⟩)
  have BD := Aside0.mk (show Below w.heap.size w wd by rw [← hwd]; exact below_drew1 B3.out)
  rw [hwd] at hHeld ⊢
  clear hwd q0 q1 q2 R3 B3
  refine take_ (i := 0) (N := some 20) (v := ?_) (a' := ?_) #[true, false, false, false, false, false] rfl rfl (by kernel_rfl) (fun c_ a_ w_ h_ => panic_put 20 _ (by decide) c_ a_ w_ h_) (Or.inl ⟨by rfl, ?_⟩) hHeld ?_ ?_
  rotate_left
  · rintro w' ⟨s0, s1, s2⟩
    go_simp
    with_reducible rfl
  rotate_left
  · simp only [Act.put, List.setIfInBounds_toArray, List.set_cons_zero, List.set_cons_succ, i64_w, i32_w]
    rfl
  refine take_ (i := 1) (N := some 21) (v := ?_) (a' := ?_) #[true, true, false, false, false, false] rfl rfl (by kernel_rfl) (fun c_ a_ w_ h_ => panic_put 21 _ (by decide) c_ a_ w_ h_) (Or.inl ⟨by rfl, ?_⟩) hHeld ?_ ?_
  rotate_left
  · rintro w' ⟨s0, s1, s2⟩
    go_simp
    with_reducible rfl
  rotate_left
  · simp only [Act.put, List.setIfInBounds_toArray, List.set_cons_zero, List.set_cons_succ, i64_w, i32_w]
    rfl
  refine take_ (i := 2) (N := some 22) (v := ?_) (a' := ?_) #[true, true, true, false, false, false] rfl rfl (by kernel_rfl) (fun c_ a_ w_ h_ => panic_put 22 _ (by decide) c_ a_ w_ h_) (Or.inl ⟨by rfl, ?_⟩) hHeld ?_ ?_
  rotate_left
  · rintro w' ⟨s0, s1, s2⟩
    go_simp
    with_reducible rfl
  rotate_left
  · simp only [Act.put, List.setIfInBounds_toArray, List.set_cons_zero, List.set_cons_succ, i64_w, i32_w]
    rfl
  have c0 := (blk_cell RD.out.1 0).trans (show _ = some (Value.slice none 0 0) from rfl)
  have g0 := blk_frozen RD.out.1 0
  refine one_ (i := 3) (N := none) #[true, true, true, true, false, false] rfl rfl (by kernel_rfl) (by decide) (fun K hK => ?_)
  refine skip_ (w1 := wd.setCell ⟨bd, 0, none⟩ (.slice none 0 0)) (by rfl) rfl (by first | (go_simp; done) | (go_simp; rfl)) ?_
  have RD2 := Aside0.mk (show Res (wd.setCell ⟨bd, 0, none⟩ (.slice none 0 0)) bd be ba 24 (.slice none 0 0) e a from ⟨blk_put RD.out.1 0 _ rfl, blk_far RD.out.2.1 (p := ⟨bd, 0, none⟩) m4 _, blk_far RD.out.2.2 (p := ⟨bd, 0, none⟩) m5 _⟩)
  have BD2 := Aside0.mk (below_set (j := 0) (v := .slice none 0 0) BD.out GD)
  refine hK.out _ _ ⟨(blk_cell RD2.out.1 0).trans rfl, (blk_cell RD2.out.2.1 0).trans rfl, (blk_cell RD2.out.2.2 0).trans rfl⟩ (fun hHeld => ?_)
  clear hK K RD BD c0 g0
  generalize wd.setCell ⟨bd, 0, none⟩ (.slice none 0 0) = we at RD2 BD2 hHeld ⊢
  have c1 := (blk_cell RD2.out.2.1 0).trans (show _ = some (Value.int .i64 e) from rfl)
  have g1 := blk_frozen RD2.out.2.1 0
  refine one_ (i := 4) (N := none) #[true, true, true, true, true, false] rfl rfl (by kernel_rfl) (by decide) (fun K hK => ?_)
  refine skip_ (w1 := we.setCell ⟨be, 0, none⟩ (.int .i64 e)) (by rfl) rfl (by first | (go_simp; done) | (go_simp; rfl)) ?_
  have RD3 := Aside0.mk (show Res (we.setCell ⟨be, 0, none⟩ (.int .i64 e)) bd be ba 24 (.slice none 0 0) e a from ⟨blk_far RD2.out.1 (p := ⟨be, 0, none⟩) m1 _, blk_put RD2.out.2.1 0 _ rfl, blk_far RD2.out.2.2 (p := ⟨be, 0, none⟩) n4 _⟩)
  have BD3 := Aside0.mk (below_set (j := 0) (v := .int .i64 e) BD2.out (show w.heap.size ≤ be by omega))
  refine hK.out _ _ ⟨(blk_cell RD3.out.1 0).trans rfl, (blk_cell RD3.out.2.1 0).trans rfl, (blk_cell RD3.out.2.2 0).trans rfl⟩ (fun hHeld => ?_)
  clear hK K RD2 BD2 c1 g1
  generalize we.setCell ⟨be, 0, none⟩ (.int .i64 e) = wf at RD3 BD3 hHeld ⊢
  have c2 := (blk_cell RD3.out.2.2 0).trans (show _ = some (Value.int .i64 a) from rfl)
  have g2 := blk_frozen RD3.out.2.2 0
  refine last_ (i := 5) (N := none) #[true, true, true, true, true, true] rfl rfl (by kernel_rfl) (by decide) (fun K hK => ?_)
  refine skip_ (w1 := wf.setCell ⟨ba, 0, none⟩ (.int .i64 a)) (by rfl) rfl (by first | (go_simp; done) | (go_simp; rfl)) ?_
  refine hK.out _ _ ?_
  clear hK K
  refine done_ (by kernel_rfl) ?_
  go_wp2
  exact parse_out bd be ba (.slice none 0 0) e a [] w _ _ rfl rfl rfl ⟨blk_far RD3.out.1 (p := ⟨ba, 0, none⟩) m3 _, blk_far RD3.out.2.1 (p := ⟨ba, 0, none⟩) n3 _, blk_put RD3.out.2.2 0 _ rfl⟩ (Kd.R_nil _ _ _ _ _) (below_set (j := 0) (v := .int .i64 a) BD3.out (show w.heap.size ≤ ba by omega))
end Go.Proofs.YtgddmfphlhlcjaaDoor.FcW
namespace Go.Proofs.YtgddmfphlhlcjaaDoor.FcW
open Go.RowKit Go.Proofs.YtgddmfphlhlcjaaDoorW.PrintWords Go.Proofs.YtgddmfphlhlcjaaDoorW.PrintLast Go.Proofs.YtgddmfphlhlcjaaDoorW.PrintMore
open Go.Proofs.YtgddmfphlhlcjaaDoor Go.Proofs.YtgddmfphlhlcjaaDoor.PF Go.Proofs.YtgddmfphlhlcjaaDoor.LxP Go.Proofs.YtgddmfphlhlcjaaDoor.LxW Go.Proofs.YtgddmfphlhlcjaaDoor.FcP
set_option linter.unusedVariables false
set_option linter.unusedSimpArgs false

theorem lexAt_texts {off : Nat} {l : List UInt8} {ts : Ts} (h : LexAt off l ts) : ∀ p ∈ ts, p.2.text.length ≤ l.length := by
  induction h with
  | done off g b hg => intro p hp; cases hp
  | more off g w r t ts hg hw h ih =>
    intro p hp
    simp only [List.length_append]
    rcases List.mem_cons.1 hp with rfl | hp
    · have hl : t.text.length ≤ w.length := by
        cases hw <;> simp <;> omega
      show t.text.length ≤ _
      omega
    · have := ih p hp
      omega
/-- What Parse tells of a text. -/
def parseO (s : ByteArray) : List S42 × Int × Int := if 20000 < s.size then ([], 2, -1) else match lex s.data.toList with
  | .error (e, a) => ([], (e : Int), (a : Int))
  | .ok T => outP (parse s.size T)
theorem parse_any (s : ByteArray) (w : World) : Calls Tryd.prog 12 #[.string s] w (PSays (parseO s) w) := by
  unfold parseO
  by_cases h : 20000 < s.size
  · rw [if_pos h]
    exact parse_unlexed s w 2 (-1) (by unfold lexT; rw [if_pos h]) (by decide)
  · rw [if_neg h]
    have hl : s.data.toList.length = s.size := byts_length s
    rcases lexN_view (s.data.toList.length + 1) 0 0 s.data.toList (by omega) (by omega) with ⟨T, h1, h2, h3⟩ | ⟨e, a, j, h1, h2, h3⟩ | ⟨a, h1, h3⟩
    · have hx : lex s.data.toList = .ok T := h3
      rw [hx]
      refine parse_lexed s T w (outP (parse s.size T)) (by unfold lexT; rw [if_neg h, hx]) (fun p hp => ?_) (by omega) (fun e a he => by rw [he]; rfl) (fun d hd => by rw [hd]; rfl)
      have := lexAt_texts h1 p hp
      omega
    · have hx : lex s.data.toList = .error (e, a) := h3
      rw [hx]
      have := lexErr_two h1
      exact parse_unlexed s w e a (by unfold lexT; rw [if_neg h, hx]) (by rw [bne_iff_ne]; omega)
    · have hx : lex s.data.toList = .error (2, a) := h3
      rw [hx]
      exact parse_unlexed s w 2 a (by unfold lexT; rw [if_neg h, hx]; rfl) (by decide)
end Go.Proofs.YtgddmfphlhlcjaaDoor.FcW
namespace Go.Proofs.YtgddmfphlhlcjaaDoor.PF
open Go.RowKit Go.Proofs.YtgddmfphlhlcjaaDoorW.PrintWords Go.Proofs.YtgddmfphlhlcjaaDoorW.PrintLast Go.Proofs.YtgddmfphlhlcjaaDoorW.PrintMore
def fact_Parse.f (a0 : ByteArray) : Option (List S42 × Int × Int) := some (FcW.parseO a0)
theorem fact_Parse.calls (a0 : ByteArray) (r1 : List S42) (r2 : Int) (r3 : Int) (w : World) (h : fact_Parse.f a0 = some (r1, r2, r3)) :
    Calls Tryd.prog 12 #[.string a0] w fun e w' => ∃ v0_ : Value, e = .returned (.tuple #[.agg #[v0_], .int .i64 r2, .int .i64 r3]) ∧ Kd.R k42 42 w' w.heap.size (fun _ => True) v0_ r1 ∧ Below w.heap.size w w' := by
  have e : FcW.parseO a0 = (r1, r2, r3) := Option.some.inj h
  have := FcW.parse_any a0 w
  rw [e] at this
  exact this
end Go.Proofs.YtgddmfphlhlcjaaDoor.PF
namespace Go.Proofs.YtgddmfphlhlcjaaDoor.FcW
open Go.RowKit Go.Proofs.YtgddmfphlhlcjaaDoorW.PrintWords Go.Proofs.YtgddmfphlhlcjaaDoorW.PrintLast Go.Proofs.YtgddmfphlhlcjaaDoorW.PrintMore
open Go.Proofs.YtgddmfphlhlcjaaDoor Go.Proofs.YtgddmfphlhlcjaaDoor.PF Go.Proofs.YtgddmfphlhlcjaaDoor.LxP Go.Proofs.YtgddmfphlhlcjaaDoor.LxW Go.Proofs.YtgddmfphlhlcjaaDoor.FcP
set_option linter.unusedVariables false
set_option linter.unusedSimpArgs false

/-- What ParseCase tells. -/
def CSays (r : List Int × Int × Int) (w : World) (e : Ending) (w' : World) : Prop :=
  ∃ v : Value, e = .returned (.tuple #[v, .int .i64 r.2.1, .int .i64 r.2.2]) ∧ Kd.R (Kd.int .i64) 3 w' w.heap.size (fun _ => True) v r.1 ∧ Below w.heap.size w w'
/-- The deferred call. -/
def dfc (bd be ba : Nat) : Deferred := { target := .fn (.func 37) #[.pointer (some ⟨bd, 0, none⟩), .pointer (some ⟨be, 0, none⟩), .pointer (some ⟨ba, 0, none⟩)], args := #[] }
theorem case_out (bd be ba : Nat) (d : Value) (e a : Int) (l : List Int) (w w' : World) (tmps : Array Value) (h2 : tmps.getD 4 undef = .pointer (some ⟨bd, 0, none⟩)) (h3 : tmps.getD 5 undef = .pointer (some ⟨be, 0, none⟩)) (h4 : tmps.getD 6 undef = .pointer (some ⟨ba, 0, none⟩))
    (hR : Res w' bd be ba 35 d e a) (hd : Kd.R (Kd.int .i64) 3 w' w.heap.size (fun _ => True) d l) (hB : Below w.heap.size w w') : Leaves Tryd.prog Tryd.f15 tmps (CSays (l, e, a) w) [] .returning w' := by
  have c1 := (blk_cell hR.1 0).trans (show _ = some d from rfl)
  have c2 := (blk_cell hR.2.1 0).trans (show _ = some (Value.int .i64 e) from rfl)
  have c3 := (blk_cell hR.2.2 0).trans (show _ = some (Value.int .i64 a) from rfl)
  refine ⟨.tuple #[d, .int .i64 e, .int .i64 a], ?_, d, rfl, hd, hB⟩
  simp only [Array.getD_eq_getD_getElem?] at h2 h3 h4
  simp [results, Tryd.results15, h2, h3, h4, go_sem, asAddr, c1, c2, c3]
theorem case_panic (bd be ba : Nat) (d : Value) (x y : Int) (e a : Nat) (w w' : World) (ac : Act) (h2 : ac.tmps.getD 4 undef = .pointer (some ⟨bd, 0, none⟩)) (h3 : ac.tmps.getD 5 undef = .pointer (some ⟨be, 0, none⟩)) (h4 : ac.tmps.getD 6 undef = .pointer (some ⟨ba, 0, none⟩)) (hf : ac.defers = [dfc bd be ba])
    (hR : Res w' bd be ba 35 d x y) (hd : ∃ A n c, d = .slice A n c) (hB : Below w.heap.size w w') (g1 : w.heap.size ≤ bd) (n1 : bd < be) (n2 : be < ba) :
    bodyPostD Tryd.prog Tryd.f15 (CSays ([], (e : Int), (a : Int)) w) (.panic [{ v := .iface 93 (.agg #[.int .i64 e, .int .i64 a]), recovered := false }]) ac w' := by
  show Leaves Tryd.prog Tryd.f15 ac.tmps _ ac.defers _ w'
  rw [hf]
  refine leaves_cons (f := 37) (args := #[.pointer (some ⟨bd, 0, none⟩), .pointer (some ⟨be, 0, none⟩), .pointer (some ⟨ba, 0, none⟩)]) (by simp) (by simp [go_sem]) ?_
  refine (catch37 bd be ba w.heap.size d x y e a [] w' hR hd g1 (by omega) (by omega) hB.size (by omega) (by omega) (by omega)).mono ?_
  rintro e_ u' w'' ⟨rfl, rfl, hR2, hB2⟩
  exact case_out bd be ba (.slice none 0 0) e a [] w w'' ac.tmps h2 h3 h4 hR2 (Kd.R_nil _ _ _ _ _) (hB.trans hB2)
theorem case_ret (bd be ba : Nat) (d : Value) (e a : Int) (l : List Int) (w w' : World) (ac : Act) (h2 : ac.tmps.getD 4 undef = .pointer (some ⟨bd, 0, none⟩)) (h3 : ac.tmps.getD 5 undef = .pointer (some ⟨be, 0, none⟩)) (h4 : ac.tmps.getD 6 undef = .pointer (some ⟨ba, 0, none⟩)) (hf : ac.defers = [dfc bd be ba])
    (hR : Res w' bd be ba 35 d e a) (hd : Kd.R (Kd.int .i64) 3 w' w.heap.size (fun _ => True) d l) (hB : Below w.heap.size w w') :
    bodyPostD Tryd.prog Tryd.f15 (CSays (l, e, a) w) .ret ac w' := by
  show Leaves Tryd.prog Tryd.f15 ac.tmps _ ac.defers _ w'
  rw [hf]
  refine leaves_cons (f := 37) (args := #[.pointer (some ⟨bd, 0, none⟩), .pointer (some ⟨be, 0, none⟩), .pointer (some ⟨ba, 0, none⟩)]) (by simp) (by simp [go_sem]) ?_
  refine (idle37 bd be ba w').mono ?_
  rintro e_ u' w'' ⟨rfl, rfl, rfl⟩
  exact case_out bd be ba d e a l w w'' ac.tmps h2 h3 h4 hR hd hB
theorem results15_put (tmps : Array Value) (N : Nat) (v : Value) (h : N ≠ 4 ∧ N ≠ 5 ∧ N ≠ 6) : results Tryd.f15 (tmps.setIfInBounds N v) = results Tryd.f15 tmps := by
  obtain ⟨h1, h2, h3⟩ := h
  simp [results, Tryd.results15, Array.getElem?_setIfInBounds, h1, h2, h3]
theorem panic_put15 {R : Ending → World → Prop} (N : Nat) (v : Value) (h : N ≠ 4 ∧ N ≠ 5 ∧ N ≠ 6) (c : List PanicEntry) (a : Act) (w : World) (hp : bodyPostD Tryd.prog Tryd.f15 R (.panic c) (a.put (some N) v) w) : bodyPostD Tryd.prog Tryd.f15 R (.panic c) a w :=
  leaves_congr (results15_put a.tmps N v h) a.defers _ w hp
end Go.Proofs.YtgddmfphlhlcjaaDoor.FcW
namespace Go.Proofs.YtgddmfphlhlcjaaDoor.FcW
open Go.RowKit Go.Proofs.YtgddmfphlhlcjaaDoorW.PrintWords Go.Proofs.YtgddmfphlhlcjaaDoorW.PrintLast Go.Proofs.YtgddmfphlhlcjaaDoorW.PrintMore
open Go.Proofs.YtgddmfphlhlcjaaDoor Go.Proofs.YtgddmfphlhlcjaaDoor.PF Go.Proofs.YtgddmfphlhlcjaaDoor.LxP Go.Proofs.YtgddmfphlhlcjaaDoor.LxW Go.Proofs.YtgddmfphlhlcjaaDoor.FcP
set_option linter.unusedVariables false
set_option linter.unusedSimpArgs false

set_option maxHeartbeats 16000000 in
set_option maxRecDepth 100000 in
theorem case_invalid (AD : Option Addr) (cD : Nat) (l0 : List S42) (s : ByteArray) (w : World) (hr : Kd.C k42 w AD l0.length l0) (hc0 : l0.length ≤ cD) (hv : fact_Valid.f l0 = some false) : Calls Tryd.prog 15 #[.agg #[.slice AD l0.length cD], .string s] w (CSays ([], 1, 0) w) := by
  have HCD := Aside0.mk hr
  clear hr
  have hmf : ∀ (fn : Fn) (first cap : Array Value) (w : World), (Instr.makeFunc fn first cap).run Tryd.prog w = .ok (.func fn first cap) w := fun _ _ _ _ => rfl
  have hmm := @run_makeMap Tryd.prog
  go_enter_defers Tryd.func15, Tryd.ntmps15
  go_upto_region 1 with (first | ((with_reducible refine gate_dst (N := 2) rfl ?_); (try (refine gate_guard (by rfl) ?_; dsimp only)); refine box_event ?hg (N := 2) ?hd (cs := #[.slice AD l0.length cD]) (t := 24) ?hr ?_; (case hd => rfl); (case hg => rfl); (case hr => first | (go_simp; done) | (go_simp; rfl)); intro bx hg_bx wx hbox hb; have BK_bx := Aside0.mk hbox; have HB_bx := Aside0.mk hb; have GE_bx := Aside0.mk (Nat.le_of_eq hg_bx.symm); clear hbox hb hg_bx) | ((with_reducible refine gate_dst (N := 4) rfl ?_); (try (refine gate_guard (by rfl) ?_; dsimp only)); refine box_event ?hg (N := 4) ?hd (cs := #[.slice none 0 0]) (t := 35) ?hr ?_; (case hd => rfl); (case hg => rfl); (case hr => first | (go_simp; done) | (go_simp; rfl)); intro bd hg_bd wa hbox hb; have BK_bd := Aside0.mk hbox; have HB_bd := Aside0.mk hb; have GE_bd := Aside0.mk (Nat.le_of_eq hg_bd.symm); clear hbox hb hg_bd) | ((with_reducible refine gate_dst (N := 5) rfl ?_); (try (refine gate_guard (by rfl) ?_; dsimp only)); refine box_event ?hg (N := 5) ?hd (cs := #[.int .i64 0]) (t := 29) ?hr ?_; (case hd => rfl); (case hg => rfl); (case hr => first | (go_simp; done) | (go_simp; rfl)); intro be hg_be wb hbox hb; have BK_be := Aside0.mk hbox; have HB_be := Aside0.mk hb; have GE_be := Aside0.mk (Nat.le_of_eq hg_be.symm); clear hbox hb hg_be) | ((with_reducible refine gate_dst (N := 6) rfl ?_); (try (refine gate_guard (by rfl) ?_; dsimp only)); refine box_event ?hg (N := 6) ?hd (cs := #[.int .i64 0]) (t := 3) ?hr ?_; (case hd => rfl); (case hg => rfl); (case hr => first | (go_simp; done) | (go_simp; rfl)); intro ba hg_ba wc hbox hb; have BK_ba := Aside0.mk hbox; have HB_ba := Aside0.mk hb; have GE_ba := Aside0.mk (Nat.le_of_eq hg_ba.symm); clear hbox hb hg_ba))
  have lx := blk_lt BK_bx.out
  have la := blk_lt BK_bd.out
  have lb := blk_lt BK_be.out
  have n0 : bx < bd := by have := GE_bd.out; omega
  have n1 : bd < be := by have := GE_be.out; omega
  have n2 : be < ba := by have := GE_ba.out; omega
  have GX : w.heap.size ≤ bx := GE_bx.out
  have GD : w.heap.size ≤ bd := by omega
  refine at_world (F := fun w' => Res w' bd be ba 35 (.slice none 0 0) 0 0 ∧ w'.heap[bx]? = some (.cells #[.slice AD l0.length cD] 24 (0, 0)) ∧ Below w.heap.size w w') ⟨⟨blk_below (blk_below BK_bd.out HB_be.out) HB_ba.out, blk_below BK_be.out HB_ba.out, BK_ba.out⟩, blk_below (blk_below (blk_below BK_bx.out HB_bd.out) HB_be.out) HB_ba.out, below_step (below_step (below_step HB_bx.out HB_bd.out) HB_be.out) HB_ba.out⟩ ?_
  clear BK_bx HB_bx GE_bx BK_bd HB_bd GE_bd BK_be HB_be GE_be BK_ba HB_ba GE_ba lx la lb
  rintro w0 ⟨hR0, hX0, hB0⟩
  have R0 := Aside0.mk hR0
  have X0 := Aside0.mk hX0
  have B0 := Aside0.mk hB0
  clear hR0 hX0 hB0
  have x0 := (blk_cell X0.out 0).trans (show _ = some (Value.slice AD l0.length cD) from rfl)
  go_upto_region 2 with (go_at_call 11; refine (fact_Valid.calls AD cD l0 false _ (Kd.C_below HCD.out B0.out) hc0 hv).mono ?_; rintro e_ w1 ⟨rfl, hb⟩; have HB := Aside0.mk hb; clear hb)
  have RD := Aside0.mk (R0.out.below HB.out)
  have BD := Aside0.mk (below_step B0.out HB.out)
  have m3 : bd ≠ ba := by omega
  have m1 : bd ≠ be := by omega
  have m2 : be ≠ ba := by omega
  have m4 : be ≠ bd := fun x => m1 x.symm
  have m5 : ba ≠ bd := fun x => m3 x.symm
  have m6 : ba ≠ be := fun x => m2 x.symm
  have c0 := (blk_cell RD.out.1 0).trans (show _ = some (Value.slice none 0 0) from rfl)
  have g0 := blk_frozen RD.out.1 0
  have c1 := (blk_cell RD.out.2.1 0).trans (show _ = some (Value.int .i64 0) from rfl)
  have g1 := blk_frozen RD.out.2.1 0
  have c2 := (blk_cell RD.out.2.2 0).trans (show _ = some (Value.int .i64 0) from rfl)
  have g2 := blk_frozen RD.out.2.2 0
  clear x0 R0 X0 B0 HB
  go_wp2
  exact case_out bd be ba (.slice none 0 0) 1 0 [] w _ _ rfl rfl rfl ⟨blk_far (blk_far (blk_put RD.out.1 0 _ rfl) (p := ⟨be, 0, none⟩) m1 _) (p := ⟨ba, 0, none⟩) m3 _, blk_far (blk_put (blk_far RD.out.2.1 (p := ⟨bd, 0, none⟩) m4 _) 0 _ rfl) (p := ⟨ba, 0, none⟩) m2 _, blk_put (blk_far (blk_far RD.out.2.2 (p := ⟨bd, 0, none⟩) m5 _) (p := ⟨be, 0, none⟩) m6 _) 0 _ rfl⟩ (Kd.R_nil _ _ _ _ _) (below_set (below_set (below_set BD.out (by omega)) (by omega)) (by omega))
set_option maxHeartbeats 16000000 in
set_option maxRecDepth 100000 in
theorem case_unlexed (AD : Option Addr) (cD : Nat) (l0 : List S42) (s : ByteArray) (w : World) (hr : Kd.C k42 w AD l0.length l0) (hc0 : l0.length ≤ cD) (hv : fact_Valid.f l0 = some true) (e a : Int) (h : lexT s = ([], e, a)) (he : (e != 0) = true) : Calls Tryd.prog 15 #[.agg #[.slice AD l0.length cD], .string s] w (CSays ([], e, a) w) := by
  have HCD := Aside0.mk hr
  clear hr
  have hmf : ∀ (fn : Fn) (first cap : Array Value) (w : World), (Instr.makeFunc fn first cap).run Tryd.prog w = .ok (.func fn first cap) w := fun _ _ _ _ => rfl
  have hmm := @run_makeMap Tryd.prog
  go_enter_defers Tryd.func15, Tryd.ntmps15
  go_upto_region 1 with (first | ((with_reducible refine gate_dst (N := 2) rfl ?_); (try (refine gate_guard (by rfl) ?_; dsimp only)); refine box_event ?hg (N := 2) ?hd (cs := #[.slice AD l0.length cD]) (t := 24) ?hr ?_; (case hd => rfl); (case hg => rfl); (case hr => first | (go_simp; done) | (go_simp; rfl)); intro bx hg_bx wx hbox hb; have BK_bx := Aside0.mk hbox; have HB_bx := Aside0.mk hb; have GE_bx := Aside0.mk (Nat.le_of_eq hg_bx.symm); clear hbox hb hg_bx) | ((with_reducible refine gate_dst (N := 4) rfl ?_); (try (refine gate_guard (by rfl) ?_; dsimp only)); refine box_event ?hg (N := 4) ?hd (cs := #[.slice none 0 0]) (t := 35) ?hr ?_; (case hd => rfl); (case hg => rfl); (case hr => first | (go_simp; done) | (go_simp; rfl)); intro bd hg_bd wa hbox hb; have BK_bd := Aside0.mk hbox; have HB_bd := Aside0.mk hb; have GE_bd := Aside0.mk (Nat.le_of_eq hg_bd.symm); clear hbox hb hg_bd) | ((with_reducible refine gate_dst (N := 5) rfl ?_); (try (refine gate_guard (by rfl) ?_; dsimp only)); refine box_event ?hg (N := 5) ?hd (cs := #[.int .i64 0]) (t := 29) ?hr ?_; (case hd => rfl); (case hg => rfl); (case hr => first | (go_simp; done) | (go_simp; rfl)); intro be hg_be wb hbox hb; have BK_be := Aside0.mk hbox; have HB_be := Aside0.mk hb; have GE_be := Aside0.mk (Nat.le_of_eq hg_be.symm); clear hbox hb hg_be) | ((with_reducible refine gate_dst (N := 6) rfl ?_); (try (refine gate_guard (by rfl) ?_; dsimp only)); refine box_event ?hg (N := 6) ?hd (cs := #[.int .i64 0]) (t := 3) ?hr ?_; (case hd => rfl); (case hg => rfl); (case hr => first | (go_simp; done) | (go_simp; rfl)); intro ba hg_ba wc hbox hb; have BK_ba := Aside0.mk hbox; have HB_ba := Aside0.mk hb; have GE_ba := Aside0.mk (Nat.le_of_eq hg_ba.symm); clear hbox hb hg_ba))
  have lx := blk_lt BK_bx.out
  have la := blk_lt BK_bd.out
  have lb := blk_lt BK_be.out
  have n0 : bx < bd := by have := GE_bd.out; omega
  have n1 : bd < be := by have := GE_be.out; omega
  have n2 : be < ba := by have := GE_ba.out; omega
  have GX : w.heap.size ≤ bx := GE_bx.out
  have GD : w.heap.size ≤ bd := by omega
  refine at_world (F := fun w' => Res w' bd be ba 35 (.slice none 0 0) 0 0 ∧ w'.heap[bx]? = some (.cells #[.slice AD l0.length cD] 24 (0, 0)) ∧ Below w.heap.size w w') ⟨⟨blk_below (blk_below BK_bd.out HB_be.out) HB_ba.out, blk_below BK_be.out HB_ba.out, BK_ba.out⟩, blk_below (blk_below (blk_below BK_bx.out HB_bd.out) HB_be.out) HB_ba.out, below_step (below_step (below_step HB_bx.out HB_bd.out) HB_be.out) HB_ba.out⟩ ?_
  clear BK_bx HB_bx GE_bx BK_bd HB_bd GE_bd BK_be HB_be GE_be BK_ba HB_ba GE_ba lx la lb
  rintro w0 ⟨hR0, hX0, hB0⟩
  have R0 := Aside0.mk hR0
  have X0 := Aside0.mk hX0
  have B0 := Aside0.mk hB0
  clear hR0 hX0 hB0
  have x0 := (blk_cell X0.out 0).trans (show _ = some (Value.slice AD l0.length cD) from rfl)
  go_upto_region 4 with (first | (go_at_call 11; refine (fact_Valid.calls AD cD l0 true _ (Kd.C_below HCD.out B0.out) hc0 hv).mono ?_; rintro e_ w1 ⟨rfl, hb⟩; have HB := Aside0.mk hb; clear hb) | (go_at_call 21; refine (lex_any s _).mono ?_; rw [h]; rintro e_ w2 ⟨v, rfl, hv_, hb⟩; obtain ⟨A, c, rfl⟩ := Kd.R_slice hv_; have HV := Aside0.mk hv_; have HL := Aside0.mk hb; have c1 := (blk_cell ((R0.out.below HB.out).below hb).2.1 0).trans (show _ = some (Value.int .i64 0) from rfl); have f1 := blk_frozen ((R0.out.below HB.out).below hb).2.1 0; have c2 := (blk_cell ((R0.out.below HB.out).below hb).2.2 0).trans (show _ = some (Value.int .i64 0) from rfl); have f2 := blk_frozen ((R0.out.below HB.out).below hb).2.2 0; have n3 : be ≠ ba := Nat.ne_of_lt n2; have n4 : ba ≠ be := fun x => n3 x.symm; clear hv_ hb))
  have RD := (R0.out.below HB.out).below HL.out
  refine at_world (F := fun w' => Res w' bd be ba 35 (.slice none 0 0) e a ∧ Below w.heap.size w w') ⟨⟨blk_far (blk_far RD.1 (p := ⟨be, 0, none⟩) (Nat.ne_of_lt n1) _) (p := ⟨ba, 0, none⟩) (by show bd ≠ ba; omega) _, blk_far (blk_put RD.2.1 0 _ rfl) (p := ⟨ba, 0, none⟩) n3 _, blk_put (blk_far RD.2.2 (p := ⟨be, 0, none⟩) n4 _) 0 _ rfl⟩, below_set (below_set (below_step (below_step B0.out HB.out) HL.out) (by omega)) (by omega)⟩ ?_
  clear RD HV HL HB c1 f1 c2 f2 R0 X0 B0 x0
  rintro w3 ⟨r_, b_⟩
  have R3 := Aside0.mk r_
  have B3 := Aside0.mk b_
  clear r_ b_
  have q1 := (blk_cell R3.out.2.1 0).trans (show _ = some (Value.int .i64 e) from rfl)
  go_upto_region 5 with (fail)
  have q0 := (blk_cell R3.out.1 0).trans (show _ = some (Value.slice none 0 0) from rfl)
  have q2 := (blk_cell R3.out.2.2 0).trans (show _ = some (Value.int .i64 a) from rfl)
  have m3 : bd ≠ ba := by omega
  have m1 : bd ≠ be := by omega
  have m4 : be ≠ bd := fun x => m1 x.symm
  have m5 : ba ≠ bd := fun x => m3 x.symm
  refine start_ (n := 5) (S := fun w' => w'.cell? ⟨bd, 0, none⟩ = some (.slice none 0 0) ∧ w'.cell? ⟨be, 0, none⟩ = some (.int .i64 e) ∧ w'.cell? ⟨ba, 0, none⟩ = some (.int .i64 a)) (ds := [4]) #[false, false, false, false, false] (by kernel_rfl) rfl rfl ⟨q0, q1, q2⟩ (fun hHeld => ?_)
  obtain ⟨wd, hwd⟩ : ∃ wd, w3.drew = wd := ⟨_, rfl⟩
  have RD := Aside0.mk (show Res wd bd be ba 35 (.slice none 0 0) e a by rw [← hwd]; exact ⟨blk_drew R3.out.1, blk_drew R3.out.2.1, blk_drew R3.out.2.2⟩)
  have BD := Aside0.mk (show Below w.heap.size w wd by rw [← hwd]; exact below_drew1 B3.out)
  rw [hwd] at hHeld ⊢
  clear hwd q0 q1 q2 R3 B3
  refine take_ (i := 0) (N := some 26) (v := ?_) (a' := ?_) #[true, false, false, false, false] rfl rfl (by kernel_rfl) (fun c_ a_ w_ h_ => panic_put15 26 _ (by decide) c_ a_ w_ h_) (Or.inl ⟨by rfl, ?_⟩) hHeld ?_ ?_
  rotate_left
  · rintro w' ⟨s0, s1, s2⟩
    go_simp
    with_reducible rfl
  rotate_left
  · simp only [Act.put, List.setIfInBounds_toArray, List.set_cons_zero, List.set_cons_succ, i64_w, i32_w]
    rfl
  refine take_ (i := 1) (N := some 27) (v := ?_) (a' := ?_) #[true, true, false, false, false] rfl rfl (by kernel_rfl) (fun c_ a_ w_ h_ => panic_put15 27 _ (by decide) c_ a_ w_ h_) (Or.inl ⟨by rfl, ?_⟩) hHeld ?_ ?_
  rotate_left
  · rintro w' ⟨s0, s1, s2⟩
    go_simp
    with_reducible rfl
  rotate_left
  · simp only [Act.put, List.setIfInBounds_toArray, List.set_cons_zero, List.set_cons_succ, i64_w, i32_w]
    rfl
  have c0 := (blk_cell RD.out.1 0).trans (show _ = some (Value.slice none 0 0) from rfl)
  have g0 := blk_frozen RD.out.1 0
  refine one_ (i := 2) (N := none) #[true, true, true, false, false] rfl rfl (by kernel_rfl) (by decide) (fun K hK => ?_)
  refine skip_ (w1 := wd.setCell ⟨bd, 0, none⟩ (.slice none 0 0)) (by rfl) rfl (by first | (go_simp; done) | (go_simp; rfl)) ?_
  have RD2 := Aside0.mk (show Res (wd.setCell ⟨bd, 0, none⟩ (.slice none 0 0)) bd be ba 35 (.slice none 0 0) e a from ⟨blk_put RD.out.1 0 _ rfl, blk_far RD.out.2.1 (p := ⟨bd, 0, none⟩) m4 _, blk_far RD.out.2.2 (p := ⟨bd, 0, none⟩) m5 _⟩)
  have BD2 := Aside0.mk (below_set (j := 0) (v := .slice none 0 0) BD.out GD)
  refine hK.out _ _ ⟨(blk_cell RD2.out.1 0).trans rfl, (blk_cell RD2.out.2.1 0).trans rfl, (blk_cell RD2.out.2.2 0).trans rfl⟩ (fun hHeld => ?_)
  clear hK K RD BD c0 g0
  generalize wd.setCell ⟨bd, 0, none⟩ (.slice none 0 0) = we at RD2 BD2 hHeld ⊢
  have c1 := (blk_cell RD2.out.2.1 0).trans (show _ = some (Value.int .i64 e) from rfl)
  have g1 := blk_frozen RD2.out.2.1 0
  refine one_ (i := 3) (N := none) #[true, true, true, true, false] rfl rfl (by kernel_rfl) (by decide) (fun K hK => ?_)
  refine skip_ (w1 := we.setCell ⟨be, 0, none⟩ (.int .i64 e)) (by rfl) rfl (by first | (go_simp; done) | (go_simp; rfl)) ?_
  have RD3 := Aside0.mk (show Res (we.setCell ⟨be, 0, none⟩ (.int .i64 e)) bd be ba 35 (.slice none 0 0) e a from ⟨blk_far RD2.out.1 (p := ⟨be, 0, none⟩) m1 _, blk_put RD2.out.2.1 0 _ rfl, blk_far RD2.out.2.2 (p := ⟨be, 0, none⟩) n4 _⟩)
  have BD3 := Aside0.mk (below_set (j := 0) (v := .int .i64 e) BD2.out (show w.heap.size ≤ be by omega))
  refine hK.out _ _ ⟨(blk_cell RD3.out.1 0).trans rfl, (blk_cell RD3.out.2.1 0).trans rfl, (blk_cell RD3.out.2.2 0).trans rfl⟩ (fun hHeld => ?_)
  clear hK K RD2 BD2 c1 g1
  generalize we.setCell ⟨be, 0, none⟩ (.int .i64 e) = wf at RD3 BD3 hHeld ⊢
  have c2 := (blk_cell RD3.out.2.2 0).trans (show _ = some (Value.int .i64 a) from rfl)
  have g2 := blk_frozen RD3.out.2.2 0
  refine last_ (i := 4) (N := none) #[true, true, true, true, true] rfl rfl (by kernel_rfl) (by decide) (fun K hK => ?_)
  refine skip_ (w1 := wf.setCell ⟨ba, 0, none⟩ (.int .i64 a)) (by rfl) rfl (by first | (go_simp; done) | (go_simp; rfl)) ?_
  refine hK.out _ _ ?_
  clear hK K
  refine done_ (by kernel_rfl) ?_
  go_wp2
  exact case_out bd be ba (.slice none 0 0) e a [] w _ _ rfl rfl rfl ⟨blk_far RD3.out.1 (p := ⟨ba, 0, none⟩) m3 _, blk_far RD3.out.2.1 (p := ⟨ba, 0, none⟩) n3 _, blk_put RD3.out.2.2 0 _ rfl⟩ (Kd.R_nil _ _ _ _ _) (below_set (j := 0) (v := .int .i64 a) BD3.out (show w.heap.size ≤ ba by omega))
end Go.Proofs.YtgddmfphlhlcjaaDoor.FcW
namespace Go.Proofs.YtgddmfphlhlcjaaDoor.FcW
open Go.RowKit Go.Proofs.YtgddmfphlhlcjaaDoorW.PrintWords Go.Proofs.YtgddmfphlhlcjaaDoorW.PrintLast Go.Proofs.YtgddmfphlhlcjaaDoorW.PrintMore
open Go.Proofs.YtgddmfphlhlcjaaDoor Go.Proofs.YtgddmfphlhlcjaaDoor.PF Go.Proofs.YtgddmfphlhlcjaaDoor.LxP Go.Proofs.YtgddmfphlhlcjaaDoor.LxW Go.Proofs.YtgddmfphlhlcjaaDoor.FcP
set_option linter.unusedVariables false
set_option linter.unusedSimpArgs false

/-- The facts whose value is not there stand in the map. -/
def Lacks (D : DataW Unit) (d : List Fc) (v : List (Option Int)) : Prop :=
  Go.Maps.Tidy D ∧ v.length = d.length ∧ Go.Maps.size D = nones v ∧
  ∀ (i : Nat) (f : Fc), d[i]? = some f → Go.Maps.has D (.string f.name) = (v.getD i none).isNone ∧ D.atKey (.string f.name) (.lit (.bool false)) = .lit (.bool (v.getD i none).isNone)
theorem nones_lack : ∀ (v : List (Option Int)) (i : Nat) (x : Int), v[i]? = some (some x) → nones (v.set i none) = nones v + 1
  | [], i, x, h => by simp at h
  | a :: v, 0, x, h => by
    simp only [List.getElem?_cons_zero, Option.some.injEq] at h
    subst h
    simp [nones, List.countP_cons]
  | a :: v, i + 1, x, h => by
    have := nones_lack v i x (by simpa using h)
    simp only [nones, List.set_cons_succ, List.countP_cons] at this ⊢
    omega
theorem names_ne {d : List Fc} (hn : (d.map (·.name)).Nodup) {i j : Nat} {f g : Fc} (hi : d[i]? = some f) (hj : d[j]? = some g) (h : f.name = g.name) : i = j := by
  obtain ⟨li, rfl⟩ := List.getElem?_eq_some_iff.1 hi
  obtain ⟨lj, rfl⟩ := List.getElem?_eq_some_iff.1 hj
  have hp := List.pairwise_iff_getElem.1 hn
  rcases Nat.lt_trichotomy i j with h1 | h1 | h1
  · have h2 := hp i j (by simpa using li) (by simpa using lj) h1
    rw [List.getElem_map, List.getElem_map] at h2
    exact absurd h h2
  · exact h1
  · have h2 := hp j i (by simpa using lj) (by simpa using li) h1
    rw [List.getElem_map, List.getElem_map] at h2
    exact absurd h.symm h2
theorem Lacks.start (d : List Fc) : Lacks (.map []) d (List.replicate d.length (some 0)) := by
  refine ⟨⟨[], rfl, List.Pairwise.nil⟩, by simp, ?_, ?_⟩
  · unfold nones
    rw [List.countP_replicate]
    rfl
  · intro i f hf
    obtain ⟨li, _⟩ := List.getElem?_eq_some_iff.1 hf
    rw [List.getD_eq_getElem?_getD, List.getElem?_replicate_of_lt li]
    exact ⟨rfl, rfl⟩
theorem Lacks.put {D : DataW Unit} {d : List Fc} {v : List (Option Int)} (h : Lacks D d v) (hn : (d.map (·.name)).Nodup) {j : Nat} {g : Fc} (hg : d[j]? = some g) {x : Int} (hv : v[j]? = some (some x)) : Lacks (D.put (.string g.name) (.lit (.bool true))) d (v.set j none) := by
  obtain ⟨h1, h2, h3, h4⟩ := h
  have hm : Go.Maps.IsMap D := by obtain ⟨es, e, _⟩ := h1; exact ⟨es, e⟩
  have hk : WideAt.IsKeyLit (.string g.name) := trivial
  have hj := h4 j g hg
  rw [List.getD_eq_getElem?_getD, hv] at hj
  refine ⟨h1.put hk _, by rw [List.length_set]; exact h2, ?_, ?_⟩
  · rw [Go.Maps.size_put h1, hj.1, nones_lack v j x hv, h3]
    rfl
  · intro i f hf
    by_cases e : j = i
    · subst e
      rw [hg] at hf
      injection hf with hf
      subst hf
      obtain ⟨lj, _⟩ := List.getElem?_eq_some_iff.1 hv
      rw [List.getD_eq_getElem?_getD, List.getElem?_set_self lj, Go.Maps.has_put_same hm hk, Go.Maps.atKey_put_same hm hk]
      exact ⟨rfl, rfl⟩
    · have hne : Lit.string f.name ≠ .string g.name := fun x => e (names_ne hn hg hf (by injection x with x; exact x.symm))
      rw [List.getD_eq_getElem?_getD, List.getElem?_set_ne e, ← List.getD_eq_getElem?_getD, Go.Maps.has_put_other hne, Go.Maps.atKey_put_other hne]
      exact h4 i f hf
theorem Lacks.del {D : DataW Unit} {d : List Fc} {v : List (Option Int)} (h : Lacks D d v) (hn : (d.map (·.name)).Nodup) {j : Nat} {g : Fc} (hg : d[j]? = some g) (hv : v[j]? = some none) (x : Int) : Lacks (D.del (.string g.name)) d (v.set j (some x)) := by
  obtain ⟨h1, h2, h3, h4⟩ := h
  have hj := h4 j g hg
  rw [List.getD_eq_getElem?_getD, hv] at hj
  refine ⟨h1.del _, by rw [List.length_set]; exact h2, ?_, ?_⟩
  · have := Go.Maps.size_del (k := .string g.name) h1
    rw [hj.1] at this
    have hs := nones_set v j x hv
    simp at this
    omega
  · intro i f hf
    by_cases e : j = i
    · subst e
      rw [hg] at hf
      injection hf with hf
      subst hf
      obtain ⟨lj, _⟩ := List.getElem?_eq_some_iff.1 hv
      rw [List.getD_eq_getElem?_getD, List.getElem?_set_self lj, Go.Maps.has_del_same, Go.Maps.atKey_del_same]
      exact ⟨rfl, rfl⟩
    · have hne : Lit.string f.name ≠ .string g.name := fun x => e (names_ne hn hg hf (by injection x with x; exact x.symm))
      rw [List.getD_eq_getElem?_getD, List.getElem?_set_ne e, ← List.getD_eq_getElem?_getD, Go.Maps.has_del_other hne, Go.Maps.atKey_del_other hne]
      exact h4 i f hf
theorem Lacks.look {w : World} {b m : Nat} {D : DataW Unit} {d : List Fc} {v : List (Option Int)} (h : w.ownsMap Tryd.prog 9 (plainElem Tryd.prog 4) b m D) (hL : Lacks D d v) {i : Nat} {f : Fc} (hf : d[i]? = some f) {x : ByteArray} (hx : x.size ≤ 1000000) (hn : byts x = f.name) {r : Bool} (hr : (v.getD i none).isNone = r) :
    (Instr.lookup 65 (.map (some b)) (.string x) false).run Tryd.prog w = .ok (.bool r) w := by
  obtain ⟨u, ps, h1, h2⟩ := h.lookup law9 Tryd.underlying65 (Tryd.zeroValue4 w) (plainElem_bool Tryd.underlying4 false) (key9 hx)
  rw [show x.data.toList = f.name from hn, (hL.2.2.2 i f hf).2, hr] at h2
  rw [bool_inv h2] at h1
  exact h1
end Go.Proofs.YtgddmfphlhlcjaaDoor.FcW
namespace Go.Proofs.YtgddmfphlhlcjaaDoor.FcW
open Go.RowKit Go.Proofs.YtgddmfphlhlcjaaDoorW.PrintWords Go.Proofs.YtgddmfphlhlcjaaDoorW.PrintLast Go.Proofs.YtgddmfphlhlcjaaDoorW.PrintMore
open Go.Proofs.YtgddmfphlhlcjaaDoor Go.Proofs.YtgddmfphlhlcjaaDoor.PF Go.Proofs.YtgddmfphlhlcjaaDoor.LxP Go.Proofs.YtgddmfphlhlcjaaDoor.LxW Go.Proofs.YtgddmfphlhlcjaaDoor.FcP
set_option linter.unusedVariables false
set_option linter.unusedSimpArgs false

/-- Which blocks are which. -/
def StC (w : World) (bx bd be ba g m : Nat) : Prop := w.heap.size ≤ bx ∧ bx < bd ∧ bd < be ∧ be < ba ∧ ba < g ∧ g < m
/-- What holds at each round. -/
def CI (w wr : World) (bx bd be ba g m : Nat) (A : Option Addr) (c : Nat) (T : Ts) (i en base : Nat) (AD : Option Addr) (nD cD : Nat) (vc : Value) (cs : List Int) (mb : Nat) (D : DataW Unit) : Prop :=
  RdAt wr g A c (T.map toS).length (i : Int) (en : Int) ∧ Kd.R k77 77 wr base (fun k => k < g) (.slice A (T.map toS).length c) (T.map toS) ∧ Res wr bd be ba 35 vc 0 0 ∧ wr.heap[bx]? = some (.cells #[.slice AD nD cD] 24 (0, 0)) ∧
  Kd.R (Kd.int .i64) 3 wr w.heap.size (fun k => g < k ∧ k ≠ m) vc cs ∧ wr.ownsMap Tryd.prog 9 (plainElem (H := Unit) Tryd.prog 4) m mb D ∧ Below w.heap.size w wr
theorem CI.tk {w wr : World} {bx bd be ba g m : Nat} {A : Option Addr} {c : Nat} {T : Ts} {i en base : Nat} {AD : Option Addr} {nD cD : Nat} {vc : Value} {cs : List Int} {mb : Nat} {D : DataW Unit} (h : CI w wr bx bd be ba g m A c T i en base AD nD cD vc cs mb D) : TkAt wr g A c (T.map toS) i en base := ⟨h.1, Kd.R_mono h.2.1 (fun k hk => Nat.ne_of_lt hk)⟩
theorem CI.res {w wr : World} {bx bd be ba g m : Nat} {A : Option Addr} {c : Nat} {T : Ts} {i en base : Nat} {AD : Option Addr} {nD cD : Nat} {vc : Value} {cs : List Int} {mb : Nat} {D : DataW Unit} (h : CI w wr bx bd be ba g m A c T i en base AD nD cD vc cs mb D) : Res wr bd be ba 35 vc 0 0 := h.2.2.1
theorem CI.bx {w wr : World} {bx bd be ba g m : Nat} {A : Option Addr} {c : Nat} {T : Ts} {i en base : Nat} {AD : Option Addr} {nD cD : Nat} {vc : Value} {cs : List Int} {mb : Nat} {D : DataW Unit} (h : CI w wr bx bd be ba g m A c T i en base AD nD cD vc cs mb D) : wr.heap[bx]? = some (.cells #[.slice AD nD cD] 24 (0, 0)) := h.2.2.2.1
theorem CI.cs {w wr : World} {bx bd be ba g m : Nat} {A : Option Addr} {c : Nat} {T : Ts} {i en base : Nat} {AD : Option Addr} {nD cD : Nat} {vc : Value} {cs : List Int} {mb : Nat} {D : DataW Unit} (h : CI w wr bx bd be ba g m A c T i en base AD nD cD vc cs mb D) : Kd.R (Kd.int .i64) 3 wr w.heap.size (fun k => g < k ∧ k ≠ m) vc cs := h.2.2.2.2.1
theorem CI.map {w wr : World} {bx bd be ba g m : Nat} {A : Option Addr} {c : Nat} {T : Ts} {i en base : Nat} {AD : Option Addr} {nD cD : Nat} {vc : Value} {cs : List Int} {mb : Nat} {D : DataW Unit} (h : CI w wr bx bd be ba g m A c T i en base AD nD cD vc cs mb D) : wr.ownsMap Tryd.prog 9 (plainElem (H := Unit) Tryd.prog 4) m mb D := h.2.2.2.2.2.1
theorem CI.wb {w wr : World} {bx bd be ba g m : Nat} {A : Option Addr} {c : Nat} {T : Ts} {i en base : Nat} {AD : Option Addr} {nD cD : Nat} {vc : Value} {cs : List Int} {mb : Nat} {D : DataW Unit} (h : CI w wr bx bd be ba g m A c T i en base AD nD cD vc cs mb D) : Below w.heap.size w wr := h.2.2.2.2.2.2
theorem CI.below {w wr w' : World} {bx bd be ba g m : Nat} {A : Option Addr} {c : Nat} {T : Ts} {i en base : Nat} {AD : Option Addr} {nD cD : Nat} {vc : Value} {cs : List Int} {mb : Nat} {D : DataW Unit} (h : CI w wr bx bd be ba g m A c T i en base AD nD cD vc cs mb D) (hb : Below wr.heap.size wr w') : CI w w' bx bd be ba g m A c T i en base AD nD cD vc cs mb D :=
  ⟨blk_below h.1 hb, Kd.R_below h.2.1 hb, h.res.below hb, blk_below h.bx hb, Kd.R_below h.cs hb, ownsMap_below h.map hb, below_step h.wb hb⟩
theorem CI.took {w wr w' : World} {bx bd be ba g m : Nat} {A : Option Addr} {c : Nat} {T : Ts} {i en base : Nat} {AD : Option Addr} {nD cD : Nat} {vc : Value} {cs : List Int} {mb : Nat} {D : DataW Unit} (h : CI w wr bx bd be ba g m A c T i en base AD nD cD vc cs mb D) (hs : StC w bx bd be ba g m) {j : Nat} (tk : TkAt w' g A c (T.map toS) j en base) (hg : wr.grownBy w' (some g)) : CI w w' bx bd be ba g m A c T j en base AD nD cD vc cs mb D := by
  obtain ⟨s1, s2, s3, s4, s5, s6⟩ := hs
  refine ⟨tk.1, Kd.R_grown h.2.1 hg (fun k hk e => ?_), h.res.grown hg (by omega) (by omega) (by omega), blk_grown h.bx hg (fun e => ?_), Kd.R_grown h.cs hg (fun k hk e => ?_), h.map.kept hg (fun e => ?_), h.wb.grown hg h.wb.size (fun k hk => ?_)⟩
  all_goals (first | (have := Option.some.inj e; omega) | (have := Option.some.inj hk; omega))
/-- The map is written. -/
theorem CI.mapped {w wr w' : World} {bx bd be ba g m : Nat} {A : Option Addr} {c : Nat} {T : Ts} {i en base : Nat} {AD : Option Addr} {nD cD : Nat} {vc : Value} {cs : List Int} {mb : Nat} {D : DataW Unit} (h : CI w wr bx bd be ba g m A c T i en base AD nD cD vc cs mb D) (hs : StC w bx bd be ba g m) {mb' : Nat} {D' : DataW Unit} (ho : w'.ownsMap Tryd.prog 9 (plainElem (H := Unit) Tryd.prog 4) m mb' D') (hg : wr.grownBy w' (some m)) : CI w w' bx bd be ba g m A c T i en base AD nD cD vc cs mb' D' := by
  obtain ⟨s1, s2, s3, s4, s5, s6⟩ := hs
  refine ⟨blk_grown h.1 hg (fun e => ?_), Kd.R_grown h.2.1 hg (fun k hk e => ?_), h.res.grown hg (by omega) (by omega) (by omega), blk_grown h.bx hg (fun e => ?_), Kd.R_grown h.cs hg (fun k hk e => hk.2 (Option.some.inj e)), ho, h.wb.grown hg h.wb.size (fun k hk => ?_)⟩
  all_goals (first | (have := Option.some.inj e; omega) | (have := Option.some.inj hk; omega))
/-- Where the case's numbers lie. -/
theorem CI.row {w wr : World} {bx bd be ba g m : Nat} {A : Option Addr} {c : Nat} {T : Ts} {i en base : Nat} {AD : Option Addr} {nD cD : Nat} {vc : Value} {cs : List Int} {mb : Nat} {D : DataW Unit} (h : CI w wr bx bd be ba g m A c T i en base AD nD cD vc cs mb D) (hn : 0 < cs.length) : ∃ bc cc, vc = .slice (some ⟨bc, 0, none⟩) cs.length cc ∧ g < bc ∧ bc ≠ m ∧ bc < wr.heap.size := by
  have h5 := h.cs
  obtain ⟨inner, ho⟩ := Kd.R_own h5
  obtain ⟨h1, h2⟩ := ho
  rcases h2 with ⟨he, h0⟩ | ⟨bc, cap, cur, he, hb, hh, hnc, hcm, hcs, ht⟩
  · omega
  · subst he
    have := h5.1 bc (by simp [Value.ownBlock])
    exact ⟨bc, cap, rfl, this.1, this.2, blk_lt hh⟩
/-- A number of the case is written. -/
theorem CI.put {w wr : World} {bx bd be ba g m : Nat} {A : Option Addr} {c : Nat} {T : Ts} {i en base : Nat} {AD : Option Addr} {nD cD : Nat} {cs : List Int} {mb : Nat} {D : DataW Unit} {bc cc j : Nat} (h : CI w wr bx bd be ba g m A c T i en base AD nD cD (.slice (some ⟨bc, 0, none⟩) cs.length cc) cs mb D) (hs : StC w bx bd be ba g m) (x : Int) : CI w (wr.setCell ⟨bc, j, none⟩ (.int .i64 x)) bx bd be ba g m A c T i en base AD nD cD (.slice (some ⟨bc, 0, none⟩) cs.length cc) (cs.set j x) mb D := by
  obtain ⟨s1, s2, s3, s4, s5, s6⟩ := hs
  have hk := h.cs.1 bc (by simp [Value.ownBlock])
  have hp := Kd.R_putn (h1 := fun _ => rfl) (enc := Value.int .i64) h.cs (j : Int) x
  rw [Int.toNat_natCast] at hp
  have hg : wr.grownBy (wr.setCell ⟨bc, j, none⟩ (.int .i64 x)) (some bc) := grown_set (grown_of_below (Below.refl _ _) (some bc)) j _
  refine ⟨blk_far h.1 (p := ⟨bc, j, none⟩) (by show g ≠ bc; omega) _, Kd.R_far h.2.1 (p := ⟨bc, j, none⟩) (fun k hk' => by show k ≠ bc; omega) _, ⟨blk_far h.res.1 (p := ⟨bc, j, none⟩) (by show bd ≠ bc; omega) _, blk_far h.res.2.1 (p := ⟨bc, j, none⟩) (by show be ≠ bc; omega) _, blk_far h.res.2.2 (p := ⟨bc, j, none⟩) (by show ba ≠ bc; omega) _⟩,
    blk_far h.bx (p := ⟨bc, j, none⟩) (by show bx ≠ bc; omega) _, hp, h.map.kept hg (fun e => hk.2 (Option.some.inj e).symm), below_set h.wb (by omega)⟩
/-- After a panic in a callee that at most moved the reader on. -/
theorem CI.panic {w wr w' : World} {bx bd be ba g m : Nat} {A : Option Addr} {c : Nat} {T : Ts} {i en base : Nat} {AD : Option Addr} {nD cD : Nat} {vc : Value} {cs : List Int} {mb : Nat} {D : DataW Unit} (h : CI w wr bx bd be ba g m A c T i en base AD nD cD vc cs mb D) (hs : StC w bx bd be ba g m) (hg : wr.grownBy w' (some g)) (e a : Nat) (ac : Act) (h2 : ac.tmps.getD 4 undef = .pointer (some ⟨bd, 0, none⟩)) (h3 : ac.tmps.getD 5 undef = .pointer (some ⟨be, 0, none⟩)) (h4 : ac.tmps.getD 6 undef = .pointer (some ⟨ba, 0, none⟩)) (hf : ac.defers = [dfc bd be ba]) :
    bodyPostD Tryd.prog Tryd.f15 (CSays ([], (e : Int), (a : Int)) w) (.panic [{ v := .iface 93 (.agg #[.int .i64 e, .int .i64 a]), recovered := false }]) ac w' := by
  obtain ⟨s1, s2, s3, s4, s5, s6⟩ := hs
  have hv : ∃ A n c, vc = .slice A n c := by
    obtain ⟨A', c', e'⟩ := Kd.R_slice h.cs
    exact ⟨A', _, c', e'⟩
  exact case_panic bd be ba vc 0 0 e a w w' ac h2 h3 h4 hf (h.res.grown hg (by omega) (by omega) (by omega)) hv (h.wb.grown hg h.wb.size (fun k hk => by have := Option.some.inj hk; omega)) (by omega) s3 s4
theorem case_err {d : List Fc} {en kf : Nat} {fst : Bool} {v : List (Option Int)} {T : Ts} {i : Nat} {p : Nat × Nat} (hE : (T.drop i).length ≤ kf ∧ caseN d en kf fst v (T.drop i) = parseCase d en T) (hi : i < T.length) (hf : caseS d en fst v (T.drop i) = .error p) : parseCase d en T = .error p := by
  obtain ⟨hl, hE⟩ := hE
  rw [← hE]
  rw [List.drop_eq_getElem_cons hi] at hf hl ⊢
  obtain ⟨kf, rfl⟩ : ∃ m, kf = m + 1 := ⟨kf - 1, by simp only [List.length_cons] at hl; omega⟩
  simp only [caseN]
  rw [hf]
  rfl
theorem case_step {d : List Fc} {en kf : Nat} {fst : Bool} {v v' : List (Option Int)} {T : Ts} {i j : Nat} (hE : (T.drop i).length ≤ kf ∧ caseN d en kf fst v (T.drop i) = parseCase d en T) (hi : i < T.length) (hij : i < j) (hf : caseS d en fst v (T.drop i) = .ok (v', T.drop j)) : ∃ kf', (T.drop j).length ≤ kf' ∧ caseN d en kf' false v' (T.drop j) = parseCase d en T := by
  obtain ⟨hl, hE⟩ := hE
  have hle : (T.drop j).length + 1 ≤ (T.drop i).length := by rw [List.length_drop, List.length_drop]; omega
  obtain ⟨kf, rfl⟩ : ∃ m, kf = m + 1 := ⟨kf - 1, by omega⟩
  refine ⟨kf, by omega, ?_⟩
  rw [← hE]
  rw [List.drop_eq_getElem_cons hi] at hf ⊢
  simp only [caseN]
  rw [hf]
  rfl
theorem index_at (A : Option Addr) (c : Nat) (l0 : List S42) (n : ByteArray) (r : Int) (w : World) (hr : Kd.C k42 w A l0.length l0) (hl : l0.length ≤ 1000000) (h : idxFrom n 0 l0 = r) :
    Calls Tryd.prog 36 #[.agg #[.slice A l0.length c], .string n] w fun e w' => e = .returned (.int .i64 r) ∧ Below w.heap.size w w' := by
  subst h
  exact index_any A c l0 n w hr (by omega)
theorem fact_at (l0 : List S42) (j : Nat) (h : j < l0.length) : (l0.map toF).getD j ⟨[], 0, 0, 0⟩ = toF (rd_T42 l0 (j : Int)) ∧ (l0.map toF)[j]? = some (toF (rd_T42 l0 (j : Int))) ∧ rd_T42 l0 (j : Int) ∈ l0 := by
  have e : rd_T42 l0 (j : Int) = l0[j] := by
    unfold rd_T42
    rw [Int.toNat_natCast, List.getD_eq_getElem?_getD, List.getElem?_eq_getElem h]
    rfl
  rw [e]
  refine ⟨?_, ?_, List.getElem_mem h⟩
  · rw [List.getD_eq_getElem?_getD, List.getElem?_map, List.getElem?_eq_getElem h]
    rfl
  · rw [List.getElem?_map, List.getElem?_eq_getElem h]
    rfl
/-- The fillings of the map: the first j facts stand in it. -/
def vAt (n j : Nat) : List (Option Int) := List.replicate j none ++ List.replicate (n - j) (some 0)
theorem vAt_zero (n : Nat) : vAt n 0 = List.replicate n (some 0) := by unfold vAt; simp
theorem vAt_full (n : Nat) : vAt n n = List.replicate n none := by unfold vAt; simp
theorem vAt_get {n j : Nat} (h : j < n) : (vAt n j)[j]? = some (some 0) := by
  unfold vAt
  rw [List.getElem?_append_right (by simp), List.length_replicate, Nat.sub_self, List.getElem?_replicate_of_lt (by omega)]
theorem vAt_set {n j : Nat} (h : j < n) : (vAt n j).set j none = vAt n (j + 1) := by
  unfold vAt
  obtain ⟨q, hq⟩ : ∃ q, n - j = q + 1 := ⟨n - j - 1, by omega⟩
  rw [hq, show n - (j + 1) = q by omega, List.set_append_right _ _ (by simp), List.length_replicate, Nat.sub_self, List.replicate_succ, List.set_cons_zero, List.replicate_succ']
  simp

theorem idx_some {l0 : List S42} {d : List Fc} (hdd : l0.map toF = d) {x : List UInt8} {q : Nat} (hq : FcP.index d x = some q) : idxFrom (bs x) 0 l0 = (q : Int) ∧ q < l0.length := by
  subst hdd
  refine ⟨?_, ?_⟩
  · rw [idx_from, byts_bs x, hq]
    show ((q + 0 : Nat) : Int) = _
    rfl
  · unfold FcP.index at hq
    have := (List.findIdx?_eq_some_iff_getElem.1 hq).1
    simpa using this
theorem idx_none {l0 : List S42} {d : List Fc} (hdd : l0.map toF = d) {x : List UInt8} (hq : FcP.index d x = none) : idxFrom (bs x) 0 l0 = -1 := by
  subst hdd
  rw [idx_from, byts_bs x, hq]
theorem idx_name {d : List Fc} {x : List UInt8} {q : Nat} (hq : FcP.index d x = some q) : ∃ f, d[q]? = some f ∧ f.name = x := by
  unfold FcP.index at hq
  obtain ⟨h1, h2, _⟩ := List.findIdx?_eq_some_iff_getElem.1 hq
  exact ⟨d[q], List.getElem?_eq_getElem h1, by simpa using h2⟩
section
variable {d : List Fc} {en : Nat} {fst : Bool} {v : List (Option Int)} {ts us us1 us2 us3 : Ts} {p : Nat × Nat} {t e n : Nat × Tk} {q : Nat}
theorem caseS_0 (hc : commaS en fst ts = .error p) : caseS d en fst v ts = .error p := by
  unfold caseS; rw [hc]; rfl
theorem caseS_1 (hc : commaS en fst ts = .ok us) (h1 : take 1 [] en us = .error p) : caseS d en fst v ts = .error p := by
  unfold caseS; rw [hc]; show (take 1 [] en us).bind _ = _; rw [h1]; rfl
theorem caseS_2 (hc : commaS en fst ts = .ok us) (h1 : take 1 [] en us = .ok (t, us1)) (hq : FcP.index d t.2.text = none) : caseS d en fst v ts = .error (7, t.1) := by
  unfold caseS; rw [hc]; show (take 1 [] en us).bind _ = _; rw [h1]; simp only [Except.bind, hq]
theorem caseS_3 (hc : commaS en fst ts = .ok us) (h1 : take 1 [] en us = .ok (t, us1)) (hq : FcP.index d t.2.text = some q) (hs : (v.getD q none).isSome = true) : caseS d en fst v ts = .error (9, t.1) := by
  unfold caseS; rw [hc]; show (take 1 [] en us).bind _ = _; rw [h1]; simp only [Except.bind, hq, hs, if_true]
theorem caseS_4 (hc : commaS en fst ts = .ok us) (h1 : take 1 [] en us = .ok (t, us1)) (hq : FcP.index d t.2.text = some q) (hs : ¬ (v.getD q none).isSome = true) (h2 : take 4 [61] en us1 = .error p) : caseS d en fst v ts = .error p := by
  unfold caseS; rw [hc]; show (take 1 [] en us).bind _ = _; rw [h1]; simp only [Except.bind, hq]; rw [if_neg hs]; rw [h2]
theorem caseS_5 (hc : commaS en fst ts = .ok us) (h1 : take 1 [] en us = .ok (t, us1)) (hq : FcP.index d t.2.text = some q) (hs : ¬ (v.getD q none).isSome = true) (h2 : take 4 [61] en us1 = .ok (e, us2)) (h3 : take 2 [] en us2 = .error p) : caseS d en fst v ts = .error p := by
  unfold caseS; rw [hc]; show (take 1 [] en us).bind _ = _; rw [h1]; simp only [Except.bind, hq]; rw [if_neg hs]; rw [h2]; simp only [h3]
theorem caseS_6 (hc : commaS en fst ts = .ok us) (h1 : take 1 [] en us = .ok (t, us1)) (hq : FcP.index d t.2.text = some q) (hs : ¬ (v.getD q none).isSome = true) (h2 : take 4 [61] en us1 = .ok (e, us2)) (h3 : take 2 [] en us2 = .ok (n, us3))
    (hr : (n.2.n : Int) < (d.getD q ⟨[], 0, 0, 0⟩).lo ∨ (d.getD q ⟨[], 0, 0, 0⟩).hi < (n.2.n : Int)) : caseS d en fst v ts = .error (10, n.1) := by
  unfold caseS; rw [hc]; show (take 1 [] en us).bind _ = _; rw [h1]; simp only [Except.bind, hq]; rw [if_neg hs]; rw [h2]; simp only [h3]; rw [if_pos hr]
theorem caseS_7 (hc : commaS en fst ts = .ok us) (h1 : take 1 [] en us = .ok (t, us1)) (hq : FcP.index d t.2.text = some q) (hs : ¬ (v.getD q none).isSome = true) (h2 : take 4 [61] en us1 = .ok (e, us2)) (h3 : take 2 [] en us2 = .ok (n, us3))
    (hr : ¬ ((n.2.n : Int) < (d.getD q ⟨[], 0, 0, 0⟩).lo ∨ (d.getD q ⟨[], 0, 0, 0⟩).hi < (n.2.n : Int))) : caseS d en fst v ts = .ok (v.set q (some (n.2.n : Int)), us3) := by
  unfold caseS; rw [hc]; show (take 1 [] en us).bind _ = _; rw [h1]; simp only [Except.bind, hq]; rw [if_neg hs]; rw [h2]; simp only [h3]; rw [if_neg hr]
end
theorem nones_any (v : List (Option Int)) : v.any (·.isNone) = decide (0 < nones v) := by
  unfold nones
  rw [Bool.eq_iff_iff, List.any_eq_true, decide_eq_true_eq, List.countP_pos_iff]
theorem set_map (v : List (Option Int)) (q : Nat) (x : Int) : (v.map (·.getD 0)).set q x = (v.set q (some x)).map (·.getD 0) := by
  rw [List.map_set]
  rfl
end Go.Proofs.YtgddmfphlhlcjaaDoor.FcW
