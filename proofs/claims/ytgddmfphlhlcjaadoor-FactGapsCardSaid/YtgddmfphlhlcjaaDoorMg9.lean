/- A panic with a fault is turned into results: the closures that Parse and ParseCase defer.
fact.Parse.
fact.Valid: whether a domain is valid (names of at most 1000000 bytes).
fact.Valid, as the printed functions call it. -/
import Derived.Test.YtgddmfphlhlcjaaDoorMg8
import Derived.Recover
import Derived.Laws.Pointers
import Derived.Test.YtgddmfphlhlcjaaDoorMg7
namespace Go.Proofs.YtgddmfphlhlcjaaDoor.FcW
open Go.RowKit Go.Proofs.YtgddmfphlhlcjaaDoorW.PrintWords Go.Proofs.YtgddmfphlhlcjaaDoorW.PrintLast Go.Proofs.YtgddmfphlhlcjaaDoorW.PrintMore
open Go.Proofs.YtgddmfphlhlcjaaDoor Go.Proofs.YtgddmfphlhlcjaaDoor.PF
set_option linter.unusedVariables false
set_option linter.unusedSimpArgs false

theorem below_then' {B : Nat} {w w' : World} (h : Below w.heap.size w w') (hB : B ≤ w.heap.size) : Below B w w' := h.mono hB
theorem belowDrew {B : Nat} {w w' : World} (h : Below B w w') : Below B w w'.drew := ⟨h.os, h.tape, h.output, h.size, h.block⟩
/-- The three results in memory. -/
def Res (w : World) (bd be ba ty : Nat) (d : Value) (e a : Int) : Prop := w.heap[bd]? = some (.cells #[d] ty (0, 0)) ∧ w.heap[be]? = some (.cells #[.int .i64 e] 29 (0, 0)) ∧ w.heap[ba]? = some (.cells #[.int .i64 a] 3 (0, 0))
theorem Res.below {w w' : World} {bd be ba ty : Nat} {d : Value} {e a : Int} (h : Res w bd be ba ty d e a) (hb : Below w.heap.size w w') : Res w' bd be ba ty d e a := ⟨blk_below h.1 hb, blk_below h.2.1 hb, blk_below h.2.2 hb⟩
theorem Res.grown {w w' : World} {bd be ba ty g : Nat} {d : Value} {e a : Int} (h : Res w bd be ba ty d e a) (hg : w.grownBy w' (some g)) (h1 : bd ≠ g) (h2 : be ≠ g) (h3 : ba ≠ g) : Res w' bd be ba ty d e a :=
  ⟨blk_grown h.1 hg (fun x => h1 (Option.some.inj x)), blk_grown h.2.1 hg (fun x => h2 (Option.some.inj x)), blk_grown h.2.2 hg (fun x => h3 (Option.some.inj x))⟩
set_option maxRecDepth 100000 in
theorem caughtNil (f p q : Value) (w : World) : Calls Tryd.prog 30 #[.nilIface, f, p, q] w fun e w' => e = .returned (.tuple #[]) ∧ w' = w := by
  have hE : ∀ w, (binOp .eql 20 .nilIface .nilIface).run Tryd.prog w = .ok (.bool true) w := fun _ => rfl
  go_enter Tryd.func30, Tryd.ntmps30
  go_wp2
  refine bodyPost_ret (results_none rfl _ _ _) rfl ?_
  exact ⟨rfl, rfl⟩
set_option maxRecDepth 100000 in
theorem flag_any (g : Nat) (w : World) : Calls Tryd.prog 32 #[.pointer (some ⟨g, 0, none⟩)] w fun e w' => e = .returned (.tuple #[.int .i64 0, .int .i64 1]) ∧ w' = w := by
  go_enter Tryd.func32, Tryd.ntmps32
  go_wp2
  exact bodyPost_ret (v := .tuple #[.int .i64 0, .int .i64 1]) (by simp [results, Tryd.results32, go_sem]) rfl ⟨rfl, rfl⟩


set_option maxHeartbeats 4000000 in
set_option maxRecDepth 100000 in
theorem clear31 (bd : Nat) (d : Value) (w : World) (h : w.heap[bd]? = some (.cells #[d] 24 (0, 0))) (hd : ∃ A n c, d = .slice A n c) : Calls Tryd.prog 31 #[.pointer (some ⟨bd, 0, none⟩)] w fun e w' => e = .returned (.tuple #[]) ∧ w' = w.setCell ⟨bd, 0, none⟩ (.slice none 0 0) := by
  obtain ⟨A, n, c, rfl⟩ := hd
  have hc := (blk_cell h 0).trans (show _ = some (Value.slice A n c) from rfl)
  have hf := blk_frozen h 0
  clear h
  go_enter Tryd.func31, Tryd.ntmps31
  go_wp2
  go_end0
  exact ⟨rfl, rfl⟩

set_option maxHeartbeats 8000000 in
set_option maxRecDepth 100000 in
theorem caught31 (bd be ba B : Nat) (d : Value) (x y e a : Int) (w : World) (h : Res w bd be ba 24 d x y) (hd : ∃ A n c, d = .slice A n c) (h1 : B ≤ bd) (h2 : B ≤ be) (h3 : B ≤ ba) (hB : B ≤ w.heap.size) (n1 : bd ≠ be) (n2 : bd ≠ ba) (n3 : be ≠ ba) :
    Calls Tryd.prog 30 #[.iface 93 (.agg #[.int .i64 e, .int .i64 a]), .func (.func 31) #[] #[.pointer (some ⟨bd, 0, none⟩)], .pointer (some ⟨be, 0, none⟩), .pointer (some ⟨ba, 0, none⟩)] w fun e' w' => e' = .returned (.tuple #[]) ∧ Res w' bd be ba 24 (.slice none 0 0) e a ∧ Below B w w' := by
  have HR := Aside0.mk h
  have hE : ∀ w, (binOp .eql 20 (.iface 93 (.agg #[.int .i64 e, .int .i64 a])) .nilIface).run Tryd.prog w = .ok (.bool false) w := fun _ => rfl
  have hT : ∀ w, (Instr.typeAssert (.iface 93 (.agg #[.int .i64 e, .int .i64 a])) 20 93 false).run Tryd.prog w = .ok (.agg #[.int .i64 e, .int .i64 a]) w := fun w => by kernel_rfl
  clear h
  go_enter Tryd.func30, Tryd.ntmps30
  go_upto_region 3 with (first | ((with_reducible refine gate_dst (N := 8) rfl ?_); (try (refine gate_guard (by rfl) ?_; dsimp only)); refine box_event ?hg (N := 8) ?hd (cs := #[.int .i64 0, .int .i64 0]) (t := 93) ?hr ?_; (case hd => rfl); (case hg => rfl); (case hr => first | (go_simp; done) | (go_simp; rfl)); intro b8 hg8 w1 hbox hb; have BK := Aside0.mk hbox; have HB := Aside0.mk hb; have GE := Aside0.mk (Nat.le_of_eq hg8.symm); have z0 := (blk_cell BK.out 0).trans (show _ = some (Value.int .i64 0) from rfl); have z1 := (blk_cell BK.out 1).trans (show _ = some (Value.int .i64 0) from rfl); have f0 := blk_frozen BK.out 0; have f1 := blk_frozen BK.out 1; clear hbox hb hg8) | (go_at_call 31; refine (clear31 bd d _ (blk_far (blk_far (blk_below HR.out.1 HB.out) (p := ⟨b8, 0, none⟩) (by have := blk_lt HR.out.1; have := GE.out; show bd ≠ b8; omega) _) (p := ⟨b8, 1, none⟩) (by have := blk_lt HR.out.1; have := GE.out; show bd ≠ b8; omega) _) hd).mono ?_; rintro e_ w2 ⟨rfl, rfl⟩))
  have l1 := blk_lt HR.out.1
  have l2 := blk_lt HR.out.2.1
  have l3 := blk_lt HR.out.2.2
  have m1 : bd ≠ b8 := by have := GE.out; omega
  have m2 : be ≠ b8 := by have := GE.out; omega
  have m3 : ba ≠ b8 := by have := GE.out; omega
  have m4 : b8 ≠ bd := fun h => m1 h.symm
  refine at_world (F := fun w' => Res w' bd be ba 24 (.slice none 0 0) x y ∧ w'.heap[b8]? = some (.cells #[.int .i64 e, .int .i64 a] 93 (0, 0)) ∧ Below B w w') ⟨⟨blk_put (blk_far (blk_far (blk_below HR.out.1 HB.out) (p := ⟨b8, 0, none⟩) m1 _) (p := ⟨b8, 1, none⟩) m1 _) 0 _ rfl, blk_far (blk_far (blk_far (blk_below HR.out.2.1 HB.out) (p := ⟨b8, 0, none⟩) m2 _) (p := ⟨b8, 1, none⟩) m2 _) (p := ⟨bd, 0, none⟩) (fun h => n1 h.symm) _, blk_far (blk_far (blk_far (blk_below HR.out.2.2 HB.out) (p := ⟨b8, 0, none⟩) m3 _) (p := ⟨b8, 1, none⟩) m3 _) (p := ⟨bd, 0, none⟩) (fun h => n2 h.symm) _⟩, blk_far (blk_put (blk_put BK.out 0 _ rfl) 1 _ rfl) (p := ⟨bd, 0, none⟩) m4 _, (((below_then' HB.out hB).setCell (by have := GE.out; show B ≤ b8; omega) _).setCell (by have := GE.out; show B ≤ b8; omega) _).setCell (by show B ≤ bd; omega) _⟩ ?_
  clear z0 z1 f0 f1 BK HB HR
  rintro w3 ⟨hr3, hb3, hB3⟩
  have e0 := (blk_cell hb3 0).trans (show _ = some (Value.int .i64 e) from rfl)
  have e1 := (blk_cell hb3 1).trans (show _ = some (Value.int .i64 a) from rfl)
  have HR3 := Aside0.mk hr3
  have BK3 := Aside0.mk hb3
  have HB3 := Aside0.mk hB3
  clear hr3 hb3 hB3
  refine start_ (n := 10) (S := fun w' => w'.cell? ⟨b8, 0, none⟩ = some (.int .i64 e) ∧ w'.cell? ⟨b8, 1, none⟩ = some (.int .i64 a)) (ds := [9]) #[false, false, false, false, false, false, false, false, false, false] (by kernel_rfl) rfl rfl ⟨e0, e1⟩ (fun hHeld => ?_)
  clear e0 e1
  obtain ⟨w4, hw4⟩ : ∃ w4, w3.drew = w4 := ⟨_, rfl⟩
  have HR4 := Aside0.mk (show Res w4 bd be ba 24 (.slice none 0 0) x y by rw [← hw4]; exact ⟨blk_drew HR3.out.1, blk_drew HR3.out.2.1, blk_drew HR3.out.2.2⟩)
  have HB4 := Aside0.mk (show Below B w w4 by rw [← hw4]; exact belowDrew HB3.out)
  rw [hw4] at hHeld ⊢
  clear hw4 HR3 BK3 HB3
  refine pure_ (i := 0) (N := some 15) (v := ?_) (a' := ?_) #[true, false, false, false, false, false, false, false, false, false] rfl rfl (by kernel_rfl) (fun _ _ _ h => h) (Or.inl ⟨by rfl, ?_⟩) ?_ ?_
  rotate_left
  · intro w'
    go_simp
    with_reducible rfl
  rotate_left
  · simp only [Act.put, List.setIfInBounds_toArray, List.set_cons_zero, List.set_cons_succ, i64_w, i32_w]
    rfl
  refine pure_ (i := 1) (N := some 16) (v := ?_) (a' := ?_) #[true, true, false, false, false, false, false, false, false, false] rfl rfl (by kernel_rfl) (fun _ _ _ h => h) (Or.inl ⟨by rfl, ?_⟩) ?_ ?_
  rotate_left
  · intro w'
    go_simp
    with_reducible rfl
  rotate_left
  · simp only [Act.put, List.setIfInBounds_toArray, List.set_cons_zero, List.set_cons_succ, i64_w, i32_w]
    rfl
  refine pure_ (i := 2) (N := some 17) (v := ?_) (a' := ?_) #[true, true, true, false, false, false, false, false, false, false] rfl rfl (by kernel_rfl) (fun _ _ _ h => h) (Or.inl ⟨by rfl, ?_⟩) ?_ ?_
  rotate_left
  · intro w'
    go_simp
    with_reducible rfl
  rotate_left
  · simp only [Act.put, List.setIfInBounds_toArray, List.set_cons_zero, List.set_cons_succ, i64_w, i32_w]
    rfl
  refine take_ (i := 3) (N := some 18) (v := ?_) (a' := ?_) #[true, true, true, true, false, false, false, false, false, false] rfl rfl (by kernel_rfl) (fun _ _ _ h => h) (Or.inl ⟨by rfl, ?_⟩) hHeld ?_ ?_
  rotate_left
  · rintro w' ⟨s0, s1⟩
    go_simp
    with_reducible rfl
  rotate_left
  · simp only [Act.put, List.setIfInBounds_toArray, List.set_cons_zero, List.set_cons_succ, i64_w, i32_w]
    rfl
  refine pure_ (i := 4) (N := some 19) (v := ?_) (a' := ?_) #[true, true, true, true, true, false, false, false, false, false] rfl rfl (by kernel_rfl) (fun _ _ _ h => h) (Or.inl ⟨by rfl, ?_⟩) ?_ ?_
  rotate_left
  · intro w'
    go_simp
    with_reducible rfl
  rotate_left
  · simp only [Act.put, List.setIfInBounds_toArray, List.set_cons_zero, List.set_cons_succ, i64_w, i32_w]
    rfl
  refine take_ (i := 5) (N := some 20) (v := ?_) (a' := ?_) #[true, true, true, true, true, true, false, false, false, false] rfl rfl (by kernel_rfl) (fun _ _ _ h => h) (Or.inl ⟨by rfl, ?_⟩) hHeld ?_ ?_
  rotate_left
  · rintro w' ⟨s0, s1⟩
    go_simp
    with_reducible rfl
  rotate_left
  · simp only [Act.put, List.setIfInBounds_toArray, List.set_cons_zero, List.set_cons_succ, i64_w, i32_w]
    rfl
  refine pure_ (i := 6) (N := some 21) (v := ?_) (a' := ?_) #[true, true, true, true, true, true, true, false, false, false] rfl rfl (by kernel_rfl) (fun _ _ _ h => h) (Or.inl ⟨by rfl, ?_⟩) ?_ ?_
  rotate_left
  · intro w'
    go_simp
    with_reducible rfl
  rotate_left
  · simp only [Act.put, List.setIfInBounds_toArray, List.set_cons_zero, List.set_cons_succ, i64_w, i32_w]
    rfl
  have c1 := (blk_cell HR4.out.2.1 0).trans (show _ = some (Value.int .i64 x) from rfl)
  have g1 := blk_frozen HR4.out.2.1 0
  have c2 := (blk_cell HR4.out.2.2 0).trans (show _ = some (Value.int .i64 y) from rfl)
  have g2 := blk_frozen HR4.out.2.2 0
  have m5 : b8 ≠ be := fun h => m2 h.symm
  refine one_ (i := 7) (N := none) #[true, true, true, true, true, true, true, true, false, false] rfl rfl (by kernel_rfl) (by decide) (fun K hK => ?_)
  refine skip_ (w1 := w4.setCell ⟨be, 0, none⟩ (.int .i64 e)) (by rfl) rfl (by first | (go_simp; done) | (go_simp; rfl)) ?_
  refine hK.out _ _ ⟨(cell_far (p := ⟨be, 0, none⟩) m5 _).trans hHeld.1, (cell_far (p := ⟨be, 0, none⟩) m5 _).trans hHeld.2⟩ (fun hHeld => ?_)
  clear hK K
  have n4 : ba ≠ be := fun h => n3 h.symm
  have c3 : (w4.setCell ⟨be, 0, none⟩ (.int .i64 e)).cell? ⟨ba, 0, none⟩ = some (.int .i64 y) := (cell_far (p := ⟨be, 0, none⟩) n4 _).trans c2
  refine pure_ (i := 8) (N := some 22) (v := ?_) (a' := ?_) #[true, true, true, true, true, true, true, true, true, false] rfl rfl (by kernel_rfl) (fun _ _ _ h => h) (Or.inl ⟨by rfl, ?_⟩) ?_ ?_
  rotate_left
  · intro w'
    go_simp
    with_reducible rfl
  rotate_left
  · simp only [Act.put, List.setIfInBounds_toArray, List.set_cons_zero, List.set_cons_succ, i64_w, i32_w]
    rfl
  refine last_ (i := 9) (N := none) #[true, true, true, true, true, true, true, true, true, true] rfl rfl (by kernel_rfl) (by decide) (fun K hK => ?_)
  refine skip_ (w1 := (w4.setCell ⟨be, 0, none⟩ (.int .i64 e)).setCell ⟨ba, 0, none⟩ (.int .i64 a)) (by rfl) rfl (by first | (go_simp; done) | (go_simp; rfl)) ?_
  refine hK.out _ _ ?_
  clear hK K
  refine done_ (by kernel_rfl) ?_
  go_wp2
  go_end0
  exact ⟨rfl, ⟨blk_far (blk_far HR4.out.1 (p := ⟨be, 0, none⟩) n1 _) (p := ⟨ba, 0, none⟩) n2 _, blk_far (blk_put HR4.out.2.1 0 _ rfl) (p := ⟨ba, 0, none⟩) n3 _, blk_put (blk_far HR4.out.2.2 (p := ⟨be, 0, none⟩) n4 _) 0 _ rfl⟩, (HB4.out.setCell (by show B ≤ be; omega) _).setCell (by show B ≤ ba; omega) _⟩

set_option maxHeartbeats 8000000 in
set_option maxRecDepth 100000 in
theorem catch29 (bd be ba B : Nat) (d : Value) (x y e a : Int) (older : List PanicEntry) (w : World) (h : Res w bd be ba 24 d x y) (hd : ∃ A n c, d = .slice A n c) (h1 : B ≤ bd) (h2 : B ≤ be) (h3 : B ≤ ba) (hB : B ≤ w.heap.size) (n1 : bd ≠ be) (n2 : bd ≠ ba) (n3 : be ≠ ba) :
    CallsD Tryd.prog 29 #[.pointer (some ⟨bd, 0, none⟩), .pointer (some ⟨be, 0, none⟩), .pointer (some ⟨ba, 0, none⟩)] (.panicking ({ v := .iface 93 (.agg #[.int .i64 e, .int .i64 a]), recovered := false } :: older)) w fun e' u' w' => e' = .returned (.tuple #[]) ∧ u' = .panicking ({ v := .iface 93 (.agg #[.int .i64 e, .int .i64 a]), recovered := true } :: older) ∧ Res w' bd be ba 24 (.slice none 0 0) e a ∧ Below B w w' := by
  have hmf : ∀ (fn : Fn) (first cap : Array Value) (w : World), (Instr.makeFunc fn first cap).run Tryd.prog w = .ok (.func fn first cap) w := fun _ _ _ _ => rfl
  refine callsD_of_wpS Tryd.func29 rfl fun c₀ cs hu => ?_
  apply wpS_region
  simp [wpOpsS, go_sem, recoverD, hu, Tryd.ntmps29, Exit.thenS, hmf]
  refine (caught31 bd be ba B d x y e a w h hd h1 h2 h3 hB n1 n2 n3).mono ?_
  rintro e_ w' ⟨rfl, hR, hb⟩
  simp [bodyPostS, results, Tryd.results29]
  exact ⟨hR, hb⟩
theorem idle29 (bd be ba : Nat) (w : World) :
    CallsD Tryd.prog 29 #[.pointer (some ⟨bd, 0, none⟩), .pointer (some ⟨be, 0, none⟩), .pointer (some ⟨ba, 0, none⟩)] .returning w fun e' u' w' => e' = .returned (.tuple #[]) ∧ u' = .returning ∧ w' = w := by
  have hmf : ∀ (fn : Fn) (first cap : Array Value) (w : World), (Instr.makeFunc fn first cap).run Tryd.prog w = .ok (.func fn first cap) w := fun _ _ _ _ => rfl
  refine callsD_of_wpS Tryd.func29 rfl fun c₀ cs hu => ?_
  apply wpS_region
  simp [wpOpsS, go_sem, recoverD, hu, Tryd.ntmps29, Exit.thenS, hmf]
  refine (caughtNil _ _ _ w).mono ?_
  rintro e_ w' ⟨rfl, rfl⟩
  cases c₀
  simp_all [bodyPostS, results, Tryd.results29]


set_option maxHeartbeats 4000000 in
set_option maxRecDepth 100000 in
theorem clear38 (bd : Nat) (d : Value) (w : World) (h : w.heap[bd]? = some (.cells #[d] 35 (0, 0))) (hd : ∃ A n c, d = .slice A n c) : Calls Tryd.prog 38 #[.pointer (some ⟨bd, 0, none⟩)] w fun e w' => e = .returned (.tuple #[]) ∧ w' = w.setCell ⟨bd, 0, none⟩ (.slice none 0 0) := by
  obtain ⟨A, n, c, rfl⟩ := hd
  have hc := (blk_cell h 0).trans (show _ = some (Value.slice A n c) from rfl)
  have hf := blk_frozen h 0
  clear h
  go_enter Tryd.func38, Tryd.ntmps38
  go_wp2
  go_end0
  exact ⟨rfl, rfl⟩

set_option maxHeartbeats 8000000 in
set_option maxRecDepth 100000 in
theorem caught38 (bd be ba B : Nat) (d : Value) (x y e a : Int) (w : World) (h : Res w bd be ba 35 d x y) (hd : ∃ A n c, d = .slice A n c) (h1 : B ≤ bd) (h2 : B ≤ be) (h3 : B ≤ ba) (hB : B ≤ w.heap.size) (n1 : bd ≠ be) (n2 : bd ≠ ba) (n3 : be ≠ ba) :
    Calls Tryd.prog 30 #[.iface 93 (.agg #[.int .i64 e, .int .i64 a]), .func (.func 38) #[] #[.pointer (some ⟨bd, 0, none⟩)], .pointer (some ⟨be, 0, none⟩), .pointer (some ⟨ba, 0, none⟩)] w fun e' w' => e' = .returned (.tuple #[]) ∧ Res w' bd be ba 35 (.slice none 0 0) e a ∧ Below B w w' := by
  have HR := Aside0.mk h
  have hE : ∀ w, (binOp .eql 20 (.iface 93 (.agg #[.int .i64 e, .int .i64 a])) .nilIface).run Tryd.prog w = .ok (.bool false) w := fun _ => rfl
  have hT : ∀ w, (Instr.typeAssert (.iface 93 (.agg #[.int .i64 e, .int .i64 a])) 20 93 false).run Tryd.prog w = .ok (.agg #[.int .i64 e, .int .i64 a]) w := fun w => by kernel_rfl
  clear h
  go_enter Tryd.func30, Tryd.ntmps30
  go_upto_region 3 with (first | ((with_reducible refine gate_dst (N := 8) rfl ?_); (try (refine gate_guard (by rfl) ?_; dsimp only)); refine box_event ?hg (N := 8) ?hd (cs := #[.int .i64 0, .int .i64 0]) (t := 93) ?hr ?_; (case hd => rfl); (case hg => rfl); (case hr => first | (go_simp; done) | (go_simp; rfl)); intro b8 hg8 w1 hbox hb; have BK := Aside0.mk hbox; have HB := Aside0.mk hb; have GE := Aside0.mk (Nat.le_of_eq hg8.symm); have z0 := (blk_cell BK.out 0).trans (show _ = some (Value.int .i64 0) from rfl); have z1 := (blk_cell BK.out 1).trans (show _ = some (Value.int .i64 0) from rfl); have f0 := blk_frozen BK.out 0; have f1 := blk_frozen BK.out 1; clear hbox hb hg8) | (go_at_call 38; refine (clear38 bd d _ (blk_far (blk_far (blk_below HR.out.1 HB.out) (p := ⟨b8, 0, none⟩) (by have := blk_lt HR.out.1; have := GE.out; show bd ≠ b8; omega) _) (p := ⟨b8, 1, none⟩) (by have := blk_lt HR.out.1; have := GE.out; show bd ≠ b8; omega) _) hd).mono ?_; rintro e_ w2 ⟨rfl, rfl⟩))
  have l1 := blk_lt HR.out.1
  have l2 := blk_lt HR.out.2.1
  have l3 := blk_lt HR.out.2.2
  have m1 : bd ≠ b8 := by have := GE.out; omega
  have m2 : be ≠ b8 := by have := GE.out; omega
  have m3 : ba ≠ b8 := by have := GE.out; omega
  have m4 : b8 ≠ bd := fun h => m1 h.symm
  refine at_world (F := fun w' => Res w' bd be ba 35 (.slice none 0 0) x y ∧ w'.heap[b8]? = some (.cells #[.int .i64 e, .int .i64 a] 93 (0, 0)) ∧ Below B w w') ⟨⟨blk_put (blk_far (blk_far (blk_below HR.out.1 HB.out) (p := ⟨b8, 0, none⟩) m1 _) (p := ⟨b8, 1, none⟩) m1 _) 0 _ rfl, blk_far (blk_far (blk_far (blk_below HR.out.2.1 HB.out) (p := ⟨b8, 0, none⟩) m2 _) (p := ⟨b8, 1, none⟩) m2 _) (p := ⟨bd, 0, none⟩) (fun h => n1 h.symm) _, blk_far (blk_far (blk_far (blk_below HR.out.2.2 HB.out) (p := ⟨b8, 0, none⟩) m3 _) (p := ⟨b8, 1, none⟩) m3 _) (p := ⟨bd, 0, none⟩) (fun h => n2 h.symm) _⟩, blk_far (blk_put (blk_put BK.out 0 _ rfl) 1 _ rfl) (p := ⟨bd, 0, none⟩) m4 _, (((below_then' HB.out hB).setCell (by have := GE.out; show B ≤ b8; omega) _).setCell (by have := GE.out; show B ≤ b8; omega) _).setCell (by show B ≤ bd; omega) _⟩ ?_
  clear z0 z1 f0 f1 BK HB HR
  rintro w3 ⟨hr3, hb3, hB3⟩
  have e0 := (blk_cell hb3 0).trans (show _ = some (Value.int .i64 e) from rfl)
  have e1 := (blk_cell hb3 1).trans (show _ = some (Value.int .i64 a) from rfl)
  have HR3 := Aside0.mk hr3
  have BK3 := Aside0.mk hb3
  have HB3 := Aside0.mk hB3
  clear hr3 hb3 hB3
  refine start_ (n := 10) (S := fun w' => w'.cell? ⟨b8, 0, none⟩ = some (.int .i64 e) ∧ w'.cell? ⟨b8, 1, none⟩ = some (.int .i64 a)) (ds := [9]) #[false, false, false, false, false, false, false, false, false, false] (by kernel_rfl) rfl rfl ⟨e0, e1⟩ (fun hHeld => ?_)
  clear e0 e1
  obtain ⟨w4, hw4⟩ : ∃ w4, w3.drew = w4 := ⟨_, rfl⟩
  have HR4 := Aside0.mk (show Res w4 bd be ba 35 (.slice none 0 0) x y by rw [← hw4]; exact ⟨blk_drew HR3.out.1, blk_drew HR3.out.2.1, blk_drew HR3.out.2.2⟩)
  have HB4 := Aside0.mk (show Below B w w4 by rw [← hw4]; exact belowDrew HB3.out)
  rw [hw4] at hHeld ⊢
  clear hw4 HR3 BK3 HB3
  refine pure_ (i := 0) (N := some 15) (v := ?_) (a' := ?_) #[true, false, false, false, false, false, false, false, false, false] rfl rfl (by kernel_rfl) (fun _ _ _ h => h) (Or.inl ⟨by rfl, ?_⟩) ?_ ?_
  rotate_left
  · intro w'
    go_simp
    with_reducible rfl
  rotate_left
  · simp only [Act.put, List.setIfInBounds_toArray, List.set_cons_zero, List.set_cons_succ, i64_w, i32_w]
    rfl
  refine pure_ (i := 1) (N := some 16) (v := ?_) (a' := ?_) #[true, true, false, false, false, false, false, false, false, false] rfl rfl (by kernel_rfl) (fun _ _ _ h => h) (Or.inl ⟨by rfl, ?_⟩) ?_ ?_
  rotate_left
  · intro w'
    go_simp
    with_reducible rfl
  rotate_left
  · simp only [Act.put, List.setIfInBounds_toArray, List.set_cons_zero, List.set_cons_succ, i64_w, i32_w]
    rfl
  refine pure_ (i := 2) (N := some 17) (v := ?_) (a' := ?_) #[true, true, true, false, false, false, false, false, false, false] rfl rfl (by kernel_rfl) (fun _ _ _ h => h) (Or.inl ⟨by rfl, ?_⟩) ?_ ?_
  rotate_left
  · intro w'
    go_simp
    with_reducible rfl
  rotate_left
  · simp only [Act.put, List.setIfInBounds_toArray, List.set_cons_zero, List.set_cons_succ, i64_w, i32_w]
    rfl
  refine take_ (i := 3) (N := some 18) (v := ?_) (a' := ?_) #[true, true, true, true, false, false, false, false, false, false] rfl rfl (by kernel_rfl) (fun _ _ _ h => h) (Or.inl ⟨by rfl, ?_⟩) hHeld ?_ ?_
  rotate_left
  · rintro w' ⟨s0, s1⟩
    go_simp
    with_reducible rfl
  rotate_left
  · simp only [Act.put, List.setIfInBounds_toArray, List.set_cons_zero, List.set_cons_succ, i64_w, i32_w]
    rfl
  refine pure_ (i := 4) (N := some 19) (v := ?_) (a' := ?_) #[true, true, true, true, true, false, false, false, false, false] rfl rfl (by kernel_rfl) (fun _ _ _ h => h) (Or.inl ⟨by rfl, ?_⟩) ?_ ?_
  rotate_left
  · intro w'
    go_simp
    with_reducible rfl
  rotate_left
  · simp only [Act.put, List.setIfInBounds_toArray, List.set_cons_zero, List.set_cons_succ, i64_w, i32_w]
    rfl
  refine take_ (i := 5) (N := some 20) (v := ?_) (a' := ?_) #[true, true, true, true, true, true, false, false, false, false] rfl rfl (by kernel_rfl) (fun _ _ _ h => h) (Or.inl ⟨by rfl, ?_⟩) hHeld ?_ ?_
  rotate_left
  · rintro w' ⟨s0, s1⟩
    go_simp
    with_reducible rfl
  rotate_left
  · simp only [Act.put, List.setIfInBounds_toArray, List.set_cons_zero, List.set_cons_succ, i64_w, i32_w]
    rfl
  refine pure_ (i := 6) (N := some 21) (v := ?_) (a' := ?_) #[true, true, true, true, true, true, true, false, false, false] rfl rfl (by kernel_rfl) (fun _ _ _ h => h) (Or.inl ⟨by rfl, ?_⟩) ?_ ?_
  rotate_left
  · intro w'
    go_simp
    with_reducible rfl
  rotate_left
  · simp only [Act.put, List.setIfInBounds_toArray, List.set_cons_zero, List.set_cons_succ, i64_w, i32_w]
    rfl
  have c1 := (blk_cell HR4.out.2.1 0).trans (show _ = some (Value.int .i64 x) from rfl)
  have g1 := blk_frozen HR4.out.2.1 0
  have c2 := (blk_cell HR4.out.2.2 0).trans (show _ = some (Value.int .i64 y) from rfl)
  have g2 := blk_frozen HR4.out.2.2 0
  have m5 : b8 ≠ be := fun h => m2 h.symm
  refine one_ (i := 7) (N := none) #[true, true, true, true, true, true, true, true, false, false] rfl rfl (by kernel_rfl) (by decide) (fun K hK => ?_)
  refine skip_ (w1 := w4.setCell ⟨be, 0, none⟩ (.int .i64 e)) (by rfl) rfl (by first | (go_simp; done) | (go_simp; rfl)) ?_
  refine hK.out _ _ ⟨(cell_far (p := ⟨be, 0, none⟩) m5 _).trans hHeld.1, (cell_far (p := ⟨be, 0, none⟩) m5 _).trans hHeld.2⟩ (fun hHeld => ?_)
  clear hK K
  have n4 : ba ≠ be := fun h => n3 h.symm
  have c3 : (w4.setCell ⟨be, 0, none⟩ (.int .i64 e)).cell? ⟨ba, 0, none⟩ = some (.int .i64 y) := (cell_far (p := ⟨be, 0, none⟩) n4 _).trans c2
  refine pure_ (i := 8) (N := some 22) (v := ?_) (a' := ?_) #[true, true, true, true, true, true, true, true, true, false] rfl rfl (by kernel_rfl) (fun _ _ _ h => h) (Or.inl ⟨by rfl, ?_⟩) ?_ ?_
  rotate_left
  · intro w'
    go_simp
    with_reducible rfl
  rotate_left
  · simp only [Act.put, List.setIfInBounds_toArray, List.set_cons_zero, List.set_cons_succ, i64_w, i32_w]
    rfl
  refine last_ (i := 9) (N := none) #[true, true, true, true, true, true, true, true, true, true] rfl rfl (by kernel_rfl) (by decide) (fun K hK => ?_)
  refine skip_ (w1 := (w4.setCell ⟨be, 0, none⟩ (.int .i64 e)).setCell ⟨ba, 0, none⟩ (.int .i64 a)) (by rfl) rfl (by first | (go_simp; done) | (go_simp; rfl)) ?_
  refine hK.out _ _ ?_
  clear hK K
  refine done_ (by kernel_rfl) ?_
  go_wp2
  go_end0
  exact ⟨rfl, ⟨blk_far (blk_far HR4.out.1 (p := ⟨be, 0, none⟩) n1 _) (p := ⟨ba, 0, none⟩) n2 _, blk_far (blk_put HR4.out.2.1 0 _ rfl) (p := ⟨ba, 0, none⟩) n3 _, blk_put (blk_far HR4.out.2.2 (p := ⟨be, 0, none⟩) n4 _) 0 _ rfl⟩, (HB4.out.setCell (by show B ≤ be; omega) _).setCell (by show B ≤ ba; omega) _⟩

set_option maxHeartbeats 8000000 in
set_option maxRecDepth 100000 in
theorem catch37 (bd be ba B : Nat) (d : Value) (x y e a : Int) (older : List PanicEntry) (w : World) (h : Res w bd be ba 35 d x y) (hd : ∃ A n c, d = .slice A n c) (h1 : B ≤ bd) (h2 : B ≤ be) (h3 : B ≤ ba) (hB : B ≤ w.heap.size) (n1 : bd ≠ be) (n2 : bd ≠ ba) (n3 : be ≠ ba) :
    CallsD Tryd.prog 37 #[.pointer (some ⟨bd, 0, none⟩), .pointer (some ⟨be, 0, none⟩), .pointer (some ⟨ba, 0, none⟩)] (.panicking ({ v := .iface 93 (.agg #[.int .i64 e, .int .i64 a]), recovered := false } :: older)) w fun e' u' w' => e' = .returned (.tuple #[]) ∧ u' = .panicking ({ v := .iface 93 (.agg #[.int .i64 e, .int .i64 a]), recovered := true } :: older) ∧ Res w' bd be ba 35 (.slice none 0 0) e a ∧ Below B w w' := by
  have hmf : ∀ (fn : Fn) (first cap : Array Value) (w : World), (Instr.makeFunc fn first cap).run Tryd.prog w = .ok (.func fn first cap) w := fun _ _ _ _ => rfl
  refine callsD_of_wpS Tryd.func37 rfl fun c₀ cs hu => ?_
  apply wpS_region
  simp [wpOpsS, go_sem, recoverD, hu, Tryd.ntmps37, Exit.thenS, hmf]
  refine (caught38 bd be ba B d x y e a w h hd h1 h2 h3 hB n1 n2 n3).mono ?_
  rintro e_ w' ⟨rfl, hR, hb⟩
  simp [bodyPostS, results, Tryd.results37]
  exact ⟨hR, hb⟩
theorem idle37 (bd be ba : Nat) (w : World) :
    CallsD Tryd.prog 37 #[.pointer (some ⟨bd, 0, none⟩), .pointer (some ⟨be, 0, none⟩), .pointer (some ⟨ba, 0, none⟩)] .returning w fun e' u' w' => e' = .returned (.tuple #[]) ∧ u' = .returning ∧ w' = w := by
  have hmf : ∀ (fn : Fn) (first cap : Array Value) (w : World), (Instr.makeFunc fn first cap).run Tryd.prog w = .ok (.func fn first cap) w := fun _ _ _ _ => rfl
  refine callsD_of_wpS Tryd.func37 rfl fun c₀ cs hu => ?_
  apply wpS_region
  simp [wpOpsS, go_sem, recoverD, hu, Tryd.ntmps37, Exit.thenS, hmf]
  refine (caughtNil _ _ _ w).mono ?_
  rintro e_ w' ⟨rfl, rfl⟩
  cases c₀
  simp_all [bodyPostS, results, Tryd.results37]

end Go.Proofs.YtgddmfphlhlcjaaDoor.FcW
namespace Go.Proofs.YtgddmfphlhlcjaaDoor.FcW
open Go.RowKit Go.Proofs.YtgddmfphlhlcjaaDoorW.PrintWords Go.Proofs.YtgddmfphlhlcjaaDoorW.PrintLast Go.Proofs.YtgddmfphlhlcjaaDoorW.PrintMore
open Go.Proofs.YtgddmfphlhlcjaaDoor Go.Proofs.YtgddmfphlhlcjaaDoor.PF Go.Proofs.YtgddmfphlhlcjaaDoor.LxP Go.Proofs.YtgddmfphlhlcjaaDoor.LxW Go.Proofs.YtgddmfphlhlcjaaDoor.FcP
set_option linter.unusedVariables false
set_option linter.unusedSimpArgs false

/-- What Parse tells. -/
def PSays (r : List S42 × Int × Int) (w : World) (e : Ending) (w' : World) : Prop :=
  ∃ v : Value, e = .returned (.tuple #[.agg #[v], .int .i64 r.2.1, .int .i64 r.2.2]) ∧ Kd.R k42 42 w' w.heap.size (fun _ => True) v r.1 ∧ Below w.heap.size w w'
theorem wpList_insert_own {H : Type} {P : Program} (w : World) {ops : Array Oper} {rest : List Oper} {o : Oper} {a : Act} {Q : Exit → Act → World → Prop}
    (hg : o.guard = none) (m x v : Operand) (t : TypeId) (hop : o.op = Op.insert t m x v)
    (k e : TypeId) (K : Go.Maps.Keyed P k) (ht : P.underlying t = some (.map k e)) (R : Value → Option (DataW H × List MemPlace)) (b n : Nat) (D : DataW H)
    (hm : a.eval m = .map (some b)) (hown : w.ownsMap P k R b n D) (hn : n < maxLen) (key val : Value) (kl : Lit) (hx : a.eval x = key) (hv : a.eval v = val) (hkey : keyOf P k key = some kl)
    (d : DataW H) (ps : List MemPlace) (hval : R val = some (d, ps))
    (hK : ∀ w', w'.ownsMap P k R b (n + 1) (D.put kl d) → w.grownBy w' (some b) → wpList P ops Q rest (a.put o.dst undef) w') :
    wpList P ops Q (o :: rest) a w := by
  refine wpList_plain hg fun K' hK' => ?_
  obtain ⟨w', hrun, r1, r2⟩ := hown.update K ht hn hkey hval
  unfold Oper.wp
  simp [execOp, hop, hm, hx, hv, hrun, Result.andThen]
  exact hK' _ _ (hK w' r1 r2)
theorem law3 : Go.Maps.Keyed Tryd.prog 3 := Go.Maps.int_keyed Tryd.underlying3
def heldR (v : Value) : Option (DataW Value × List MemPlace) := some (.held v, [])
theorem zero74 (w : World) : (zeroValue 74).run Tryd.prog w = .ok .nilFunc w := by kernel_rfl
/-- The map from words to kinds. -/
def Kinds (w : World) (m : Nat) : Prop := w.ownsMap Tryd.prog 9 (plainElem (H := Unit) Tryd.prog 3) m 2 (((DataW.map []).put (.string flagW) (.lit (.int .i64 1))).put (.string numW) (.lit (.int .i64 2)))
def kindOf (x : List UInt8) : Int := if x = flagW then 1 else if x = numW then 2 else 0
theorem Kinds.look {w : World} {m : Nat} (h : Kinds w m) {x : ByteArray} (hx : x.size ≤ 1000000) {k : Int} (hk : kindOf (byts x) = k) : (Instr.lookup 73 (.map (some m)) (.string x) false).run Tryd.prog w = .ok (.int .i64 k) w := by
  obtain ⟨c, h1, h2, _⟩ := h.lookup_int law9 Tryd.underlying73 Tryd.underlying3 (Tryd.zeroValue3 w) (key9 hx)
  rw [h1]
  have hm : Go.Maps.IsMap (DataW.map [] : DataW Unit) := ⟨[], rfl⟩
  have hm2 : Go.Maps.IsMap ((DataW.map [] : DataW Unit).put (.string flagW) (.lit (.int .i64 1))) := ⟨_, rfl⟩
  have e : c = kindOf (byts x) := by
    unfold kindOf
    by_cases hf : byts x = flagW
    · rw [if_pos hf]
      rw [show x.data.toList = flagW from hf, Go.Maps.atKey_put_other (by intro e; injection e with e; exact absurd e (by decide)), Go.Maps.atKey_put_same hm (by trivial)] at h2
      simpa using h2.symm
    · rw [if_neg hf]
      by_cases hn : byts x = numW
      · rw [if_pos hn]
        rw [show x.data.toList = numW from hn, Go.Maps.atKey_put_same hm2 (by trivial)] at h2
        simpa using h2.symm
      · rw [if_neg hn]
        rw [Go.Maps.atKey_put_other (fun e => hn (by injection e)), Go.Maps.atKey_put_other (fun e => hf (by injection e))] at h2
        simp [DataW.atKey] at h2
        exact h2.symm
  rw [e, hk]
/-- The map from kinds to methods. -/
def Ways (w : World) (m g : Nat) : Prop := w.ownsMap Tryd.prog 3 heldR m 2 (((DataW.map []).put (.int .i64 1) (.held (.func (.func 32) #[.pointer (some ⟨g, 0, none⟩)] #[]))).put (.int .i64 2) (.held (.func (.func 33) #[.pointer (some ⟨g, 0, none⟩)] #[])))
theorem Ways.look {w : World} {m g : Nat} (h : Ways w m g) {k f : Nat} (hk : k = 1 ∧ f = 32 ∨ k = 2 ∧ f = 33) : (Instr.lookup 75 (.map (some m)) (.int .i64 k) false).run Tryd.prog w = .ok (.func (.func f) #[.pointer (some ⟨g, 0, none⟩)] #[]) w := by
  have hm : Go.Maps.IsMap (DataW.map [] : DataW Value) := ⟨[], rfl⟩
  have hm2 : Go.Maps.IsMap ((DataW.map [] : DataW Value).put (.int .i64 1) (.held (.func (.func 32) #[.pointer (some ⟨g, 0, none⟩)] #[]))) := ⟨_, rfl⟩
  have hkey : keyOf Tryd.prog 3 (.int .i64 (k : Int)) = some (.int .i64 k) := Go.Maps.keyOf_int_mk Tryd.underlying3 (by rcases hk with ⟨rfl, _⟩ | ⟨rfl, _⟩ <;> decide)
  obtain ⟨v, ps, h1, h2⟩ := h.lookup law3 Tryd.underlying75 (zero74 w) (zd := .held .nilFunc) (zp := []) rfl hkey
  rw [h1]
  rcases hk with ⟨rfl, rfl⟩ | ⟨rfl, rfl⟩
  · rw [Go.Maps.atKey_put_other (by intro e; injection e with _ e; exact absurd e (by decide))] at h2
    have e := Go.Maps.atKey_put_same (k := .int .i64 1) hm (by trivial) (.held (.func (.func 32) #[.pointer (some ⟨g, 0, none⟩)] #[])) (.held .nilFunc)
    rw [show ((1 : Nat) : Int) = 1 from rfl, e] at h2
    simp only [heldR, Option.some.injEq, Prod.mk.injEq, DataW.held.injEq] at h2
    rw [h2.1]
  · have e := Go.Maps.atKey_put_same (k := .int .i64 2) hm2 (by trivial) (.held (.func (.func 33) #[.pointer (some ⟨g, 0, none⟩)] #[])) (.held .nilFunc)
    rw [show ((2 : Nat) : Int) = 2 from rfl, e] at h2
    simp only [heldR, Option.some.injEq, Prod.mk.injEq, DataW.held.injEq] at h2
    rw [h2.1]
/-- The deferred call. -/
def dfr (bd be ba : Nat) : Deferred := { target := .fn (.func 29) #[.pointer (some ⟨bd, 0, none⟩), .pointer (some ⟨be, 0, none⟩), .pointer (some ⟨ba, 0, none⟩)], args := #[] }
theorem parse_out (bd be ba : Nat) (d : Value) (e a : Int) (l : List S42) (w w' : World) (tmps : Array Value) (h2 : tmps.getD 2 undef = .pointer (some ⟨bd, 0, none⟩)) (h3 : tmps.getD 3 undef = .pointer (some ⟨be, 0, none⟩)) (h4 : tmps.getD 4 undef = .pointer (some ⟨ba, 0, none⟩))
    (hR : Res w' bd be ba 24 d e a) (hd : Kd.R k42 42 w' w.heap.size (fun _ => True) d l) (hB : Below w.heap.size w w') : Leaves Tryd.prog Tryd.f12 tmps (PSays (l, e, a) w) [] .returning w' := by
  have c1 := (blk_cell hR.1 0).trans (show _ = some d from rfl)
  have c2 := (blk_cell hR.2.1 0).trans (show _ = some (Value.int .i64 e) from rfl)
  have c3 := (blk_cell hR.2.2 0).trans (show _ = some (Value.int .i64 a) from rfl)
  refine ⟨.tuple #[.agg #[d], .int .i64 e, .int .i64 a], ?_, d, rfl, hd, hB⟩
  simp only [Array.getD_eq_getD_getElem?] at h2 h3 h4
  simp [results, Tryd.results12, h2, h3, h4, go_sem, asAddr, c1, c2, c3]
theorem parse_panic (bd be ba : Nat) (d : Value) (x y : Int) (e a : Nat) (w w' : World) (ac : Act) (h2 : ac.tmps.getD 2 undef = .pointer (some ⟨bd, 0, none⟩)) (h3 : ac.tmps.getD 3 undef = .pointer (some ⟨be, 0, none⟩)) (h4 : ac.tmps.getD 4 undef = .pointer (some ⟨ba, 0, none⟩)) (hf : ac.defers = [dfr bd be ba])
    (hR : Res w' bd be ba 24 d x y) (hd : ∃ A n c, d = .slice A n c) (hB : Below w.heap.size w w') (g1 : w.heap.size ≤ bd) (n1 : bd < be) (n2 : be < ba) :
    bodyPostD Tryd.prog Tryd.f12 (PSays ([], (e : Int), (a : Int)) w) (.panic [{ v := .iface 93 (.agg #[.int .i64 e, .int .i64 a]), recovered := false }]) ac w' := by
  show Leaves Tryd.prog Tryd.f12 ac.tmps _ ac.defers _ w'
  rw [hf]
  refine leaves_cons (f := 29) (args := #[.pointer (some ⟨bd, 0, none⟩), .pointer (some ⟨be, 0, none⟩), .pointer (some ⟨ba, 0, none⟩)]) (by simp) (by simp [go_sem]) ?_
  refine (catch29 bd be ba w.heap.size d x y e a [] w' hR hd g1 (by omega) (by omega) hB.size (by omega) (by omega) (by omega)).mono ?_
  rintro e_ u' w'' ⟨rfl, rfl, hR2, hB2⟩
  exact parse_out bd be ba (.slice none 0 0) e a [] w w'' ac.tmps h2 h3 h4 hR2 (Kd.R_nil _ _ _ _ _) (hB.trans hB2)
theorem parse_ret (bd be ba : Nat) (d : Value) (e a : Int) (l : List S42) (w w' : World) (ac : Act) (h2 : ac.tmps.getD 2 undef = .pointer (some ⟨bd, 0, none⟩)) (h3 : ac.tmps.getD 3 undef = .pointer (some ⟨be, 0, none⟩)) (h4 : ac.tmps.getD 4 undef = .pointer (some ⟨ba, 0, none⟩)) (hf : ac.defers = [dfr bd be ba])
    (hR : Res w' bd be ba 24 d e a) (hd : Kd.R k42 42 w' w.heap.size (fun _ => True) d l) (hB : Below w.heap.size w w') :
    bodyPostD Tryd.prog Tryd.f12 (PSays (l, e, a) w) .ret ac w' := by
  show Leaves Tryd.prog Tryd.f12 ac.tmps _ ac.defers _ w'
  rw [hf]
  refine leaves_cons (f := 29) (args := #[.pointer (some ⟨bd, 0, none⟩), .pointer (some ⟨be, 0, none⟩), .pointer (some ⟨ba, 0, none⟩)]) (by simp) (by simp [go_sem]) ?_
  refine (idle29 bd be ba w').mono ?_
  rintro e_ u' w'' ⟨rfl, rfl, rfl⟩
  exact parse_out bd be ba d e a l w w'' ac.tmps h2 h3 h4 hR hd hB
end Go.Proofs.YtgddmfphlhlcjaaDoor.FcW
namespace Go.Proofs.YtgddmfphlhlcjaaDoor.FcW
open Go.RowKit Go.Proofs.YtgddmfphlhlcjaaDoorW.PrintWords Go.Proofs.YtgddmfphlhlcjaaDoorW.PrintLast Go.Proofs.YtgddmfphlhlcjaaDoorW.PrintMore
open Go.Proofs.YtgddmfphlhlcjaaDoor Go.Proofs.YtgddmfphlhlcjaaDoor.PF Go.Proofs.YtgddmfphlhlcjaaDoor.LxP Go.Proofs.YtgddmfphlhlcjaaDoor.LxW Go.Proofs.YtgddmfphlhlcjaaDoor.FcP
set_option linter.unusedVariables false
set_option linter.unusedSimpArgs false

def toF (f : S42) : Fc := ⟨byts f.f0, f.f1, f.f2, f.f3⟩
def validFrom : List (List UInt8) → List S42 → Bool
  | _, [] => true
  | xs, f :: r => factOk (toF f) && !(decide (byts f.f0 ∈ xs)) && validFrom (xs ++ [byts f.f0]) r

theorem bool_inv {v : Value} {s : Bool} {ps : List MemPlace} (h : plainElem (H := Unit) Tryd.prog 4 v = some (.lit (.bool s), ps)) : v = .bool s := by
  unfold plainElem at h
  simp only [Tryd.underlying4] at h
  split at h
  · simp only [Option.some.injEq, Prod.mk.injEq, DataW.lit.injEq, Lit.bool.injEq] at h
    rw [h.1]
  · rename_i e
    cases e
  · rename_i e
    cases e
  · cases h
theorem seen_lookup {w : World} {b m : Nat} {D : DataW Unit} {xs : List (List UInt8)} (h : w.ownsMap Tryd.prog 9 (plainElem Tryd.prog 4) b m D) (hS : SeenIs D xs) {s : ByteArray} (hs : s.size ≤ 1000000) {r : Bool} (hr : decide (byts s ∈ xs) = r) :
    (Instr.lookup 65 (.map (some b)) (.string s) false).run Tryd.prog w = .ok (.bool r) w := by
  obtain ⟨v, ps, h1, h2⟩ := h.lookup law9 Tryd.underlying65 (Tryd.zeroValue4 w) (plainElem_bool Tryd.underlying4 false) (key9 hs)
  rw [hS.2, show decide (s.data.toList ∈ xs) = r from hr] at h2
  rw [bool_inv h2] at h1
  exact h1

set_option maxHeartbeats 16000000 in
set_option maxRecDepth 100000 in
theorem valid_any (A : Option Addr) (c : Nat) (l0 : List S42) (w : World) (hr : Kd.C k42 w A l0.length l0) (hl : l0.length ≤ 1000000) (hsz : ∀ f ∈ l0, f.f0.size ≤ 1000000) :
    Calls Tryd.prog 11 #[.agg #[.slice A l0.length c]] w fun e w' => e = .returned (.bool (validFrom [] l0 && decide (l0.length ≤ 60))) ∧ Below w.heap.size w w' := by
  have HR := Aside0.mk hr
  clear hr
  have hmm := @run_makeMap Tryd.prog
  go_enter Tryd.func11, Tryd.ntmps11
  go_wp2
  obtain ⟨W, hW⟩ : ∃ W, (w.alloc (Obj.cells #[.slice A l0.length c] 24)).alloc (Obj.map #[] 0) = W := ⟨_, rfl⟩
  have HO0 := Aside0.mk (show W.ownsMap Tryd.prog 9 (plainElem (H := Unit) Tryd.prog 4) (w.heap.size + 1) 0 (.map []) by rw [← hW]; have := World.ownsMap_made (H := Unit) (w.alloc (Obj.cells #[.slice A l0.length c] 24)) Tryd.prog 9 (plainElem Tryd.prog 4); simpa using this)
  have HC0 := Aside0.mk (show W.heap[w.heap.size]? = some (.cells #[.slice A l0.length c] 24 (0, 0)) by rw [← hW]; exact blk_alloc (blk_new w _) _)
  have HB0 := Aside0.mk (show Below w.heap.size w W by rw [← hW]; exact below_alloc (below_alloc (Below.refl _ _) _) _)
  rw [hW]
  clear hW hmm
  go_loopw [12] (fun v wr => ∃ (j : Nat) (xs : List (List UInt8)) (D : DataW Unit), j ≤ l0.length ∧ v = .int .i64 j ∧ Aside0 (Below w.heap.size w wr) ∧ Aside0 (wr.heap[w.heap.size]? = some (.cells #[.slice A l0.length c] 24 (0, 0))) ∧ Aside0 (wr.ownsMap Tryd.prog 9 (plainElem (H := Unit) Tryd.prog 4) (w.heap.size + 1) j D) ∧ Aside0 (SeenIs D xs) ∧ Aside0 (validFrom xs (l0.drop j) = validFrom [] l0)) (fun v _ => l0.length - (intOf v).toNat)
  case atStart => exact ⟨0, [], .map [], Nat.zero_le _, rfl, HB0, HC0, HO0, ⟨SeenIs.nil⟩, ⟨rfl⟩⟩
  case round =>
    clear HO0 HC0 HB0
    obtain ⟨j, xs, D, hj, rfl, HB, HC, HO, HS, HE⟩ := hrel
    by_cases hjl : j < l0.length
    · have hd : decide ((j : Int) < (l0.length : Int)) = true := decide_eq_true (by omega)
      have hd2 : decide (j < l0.length) = true := decide_eq_true hjl
      obtain ⟨ad, e0, hx0, hx1, hx2, hx3⟩ := at_T42 HR.out (j : Int) (by omega) (by omega)
      cases e0
      replace hx0 := (HB.out.cell (World.block_lt_of_cell? w _ hx0)).trans hx0
      replace hx1 := (HB.out.cell (World.block_lt_of_cell? w _ hx1)).trans hx1
      replace hx2 := (HB.out.cell (World.block_lt_of_cell? w _ hx2)).trans hx2
      replace hx3 := (HB.out.cell (World.block_lt_of_cell? w _ hx3)).trans hx3
      simp only [Int.toNat_natCast] at hx0 hx1 hx2 hx3
      have p1 := eq_true (show (0 : Int) ≤ (j : Int) by omega)
      have q1 := eq_true (show (j : Int) < (l0.length : Int) by omega)
      have hdr := rd_drop l0 j hjl
      have hmem : rd_T42 l0 (j : Int) ∈ l0 := List.mem_of_mem_drop (i := j) (by rw [hdr]; exact List.mem_cons_self ..)
      have hn := hsz _ hmem
      generalize rd_T42 l0 (j : Int) = x at hx0 hx1 hx2 hx3 hdr hn
      obtain ⟨n, kd, lo, hi⟩ := x
      simp only at hx0 hx1 hx2 hx3 hn
      have HD := Aside0.mk hdr
      have HN := Aside0.mk hn
      clear hdr hn hmem

      by_cases h1 : kd = 1
      · subst h1
        by_cases h2 : lo = 0
        · subst h2
          by_cases h3 : hi = 1
          · subst h3
            by_cases hnm : nameOk (byts n) = true
            · have HNM := Aside0.mk hnm
              by_cases hse : byts n ∈ xs
              · have hv : validFrom [] l0 = false := by
                  rw [← HE.out, HD.out]
                  simp [validFrom, toF, hse]
                have HL : ∀ nd, (Instr.lookup 65 (.map (some (w.heap.size + 1))) (.string n) false).run Tryd.prog ((wr.alloc (.cells #[.string n, .int .i64 1, .int .i64 0, .int .i64 1] 42)).drewN nd) = .ok (.bool true) ((wr.alloc (.cells #[.string n, .int .i64 1, .int .i64 0, .int .i64 1] 42)).drewN nd) := fun nd => seen_lookup (ownsMap_below (HO.out.alloc _) (pw_below_drewN (Below.refl _ _) nd)) HS.out HN.out (decide_eq_true hse)
                clear hse hnm
                go_wp2_with (go_at_call 28; refine (isName_any n _ HN.out true HNM.out).mono ?_; rintro e w' ⟨rfl, ⟨nd, rfl⟩⟩)
                go_ret
                exact ⟨by first | (rw [hv]; rfl) | rfl, pw_below_drewN (below_alloc HB.out _) _⟩
              · have hv : validFrom (xs ++ [byts n]) (l0.drop (j + 1)) = validFrom [] l0 := by
                  rw [← HE.out, HD.out]
                  simp [validFrom, factOk, toF, hse, hnm]
                have HV := Aside0.mk hv
                have HL : ∀ nd, (Instr.lookup 65 (.map (some (w.heap.size + 1))) (.string n) false).run Tryd.prog ((wr.alloc (.cells #[.string n, .int .i64 1, .int .i64 0, .int .i64 1] 42)).drewN nd) = .ok (.bool false) ((wr.alloc (.cells #[.string n, .int .i64 1, .int .i64 0, .int .i64 1] 42)).drewN nd) := fun nd => seen_lookup (ownsMap_below (HO.out.alloc _) (pw_below_drewN (Below.refl _ _) nd)) HS.out HN.out (decide_eq_false hse)
                clear hse hnm hv
                go_wp2_with (first
                  | (go_at_call 28; refine (isName_any n _ HN.out true HNM.out).mono ?_; rintro e w' ⟨rfl, ⟨nd, rfl⟩⟩)
                  | (at_mapUpdate; refine wpList_mapUpdate_own _ rfl _ _ _ 65 rfl 9 4 law9 Tryd.underlying65 (plainElem (H := Unit) Tryd.prog 4) (w.heap.size + 1) j D rfl (ownsMap_below (HO.out.alloc _) (pw_below_drewN (Below.refl _ _) nd)) (by unfold maxLen; omega) _ _ _ rfl rfl (key9 HN.out) _ [] (plainElem_bool Tryd.underlying4 true) ?_; intro w1 hown1 hgrow1; have HO1 := Aside0.mk hown1; have HG1 := Aside0.mk hgrow1; clear hown1 hgrow1))
                go_roundw
                case rel => exact ⟨j + 1, xs ++ [byts n], _, by omega, by go_num, ⟨(pw_below_drewN (below_alloc HB.out _) _).grown HG1.out (by simp; have := HB.out.size; omega) (fun k hk => by cases hk; omega)⟩, ⟨(HG1.out.block _ (by have := blk_lt HC.out; simp; omega) (by simp)).trans (blk_drewN (blk_alloc HC.out _) _)⟩, HO1, ⟨HS.out.put (byts n)⟩, HV⟩
                case measure => simp [intOf]; omega
            · have HNM := Aside0.mk (show nameOk (byts n) = false by simpa using hnm)
              have hv : validFrom [] l0 = false := by
                rw [← HE.out, HD.out]
                simp [validFrom, factOk, toF, hnm]
              clear hnm
              go_wp2_with (go_at_call 28; refine (isName_any n _ HN.out false HNM.out).mono ?_; rintro e w' ⟨rfl, ⟨nd, rfl⟩⟩)
              go_ret
              exact ⟨by first | (rw [hv]; rfl) | rfl, pw_below_drewN (below_alloc HB.out _) _⟩
          · have h3b : (hi == 1) = false := by simpa using h3
            have hv : validFrom [] l0 = false := by
              rw [← HE.out, HD.out]
              simp [validFrom, factOk, toF, h3]
            go_wp2
            go_ret
            exact ⟨by first | (rw [hv]; rfl) | rfl, below_alloc HB.out _⟩
        · have h2b : (lo == 0) = false := by simpa using h2
          have hv : validFrom [] l0 = false := by
            rw [← HE.out, HD.out]
            simp [validFrom, factOk, toF, h2]
          go_wp2
          go_ret
          exact ⟨by first | (rw [hv]; rfl) | rfl, below_alloc HB.out _⟩
      · have h1b : (kd == 1) = false := by simpa using h1
        by_cases h4 : kd = 2
        · subst h4
          by_cases h5 : 0 ≤ lo
          · have h5b : decide (0 ≤ lo) = true := decide_eq_true h5
            by_cases h6 : lo ≤ hi
            · have h6b : decide (lo ≤ hi) = true := decide_eq_true h6
              by_cases h7 : hi ≤ 1000000
              · have h7b : decide (hi ≤ 1000000) = true := decide_eq_true h7
                by_cases hnm : nameOk (byts n) = true
                · have HNM := Aside0.mk hnm
                  by_cases hse : byts n ∈ xs
                  · have hv : validFrom [] l0 = false := by
                      rw [← HE.out, HD.out]
                      simp [validFrom, toF, hse]
                    have HL : ∀ nd, (Instr.lookup 65 (.map (some (w.heap.size + 1))) (.string n) false).run Tryd.prog ((wr.alloc (.cells #[.string n, .int .i64 2, .int .i64 lo, .int .i64 hi] 42)).drewN nd) = .ok (.bool true) ((wr.alloc (.cells #[.string n, .int .i64 2, .int .i64 lo, .int .i64 hi] 42)).drewN nd) := fun nd => seen_lookup (ownsMap_below (HO.out.alloc _) (pw_below_drewN (Below.refl _ _) nd)) HS.out HN.out (decide_eq_true hse)
                    clear hse hnm
                    go_wp2_with (go_at_call 28; refine (isName_any n _ HN.out true HNM.out).mono ?_; rintro e w' ⟨rfl, ⟨nd, rfl⟩⟩)
                    go_ret
                    exact ⟨by first | (rw [hv]; rfl) | rfl, pw_below_drewN (below_alloc HB.out _) _⟩
                  · have hv : validFrom (xs ++ [byts n]) (l0.drop (j + 1)) = validFrom [] l0 := by
                      rw [← HE.out, HD.out]
                      simp [validFrom, factOk, toF, hse, hnm, h5, h6, h7]
                    have HV := Aside0.mk hv
                    have HL : ∀ nd, (Instr.lookup 65 (.map (some (w.heap.size + 1))) (.string n) false).run Tryd.prog ((wr.alloc (.cells #[.string n, .int .i64 2, .int .i64 lo, .int .i64 hi] 42)).drewN nd) = .ok (.bool false) ((wr.alloc (.cells #[.string n, .int .i64 2, .int .i64 lo, .int .i64 hi] 42)).drewN nd) := fun nd => seen_lookup (ownsMap_below (HO.out.alloc _) (pw_below_drewN (Below.refl _ _) nd)) HS.out HN.out (decide_eq_false hse)
                    clear hse hnm hv
                    go_wp2_with (first
                      | (go_at_call 28; refine (isName_any n _ HN.out true HNM.out).mono ?_; rintro e w' ⟨rfl, ⟨nd, rfl⟩⟩)
                      | (at_mapUpdate; refine wpList_mapUpdate_own _ rfl _ _ _ 65 rfl 9 4 law9 Tryd.underlying65 (plainElem (H := Unit) Tryd.prog 4) (w.heap.size + 1) j D rfl (ownsMap_below (HO.out.alloc _) (pw_below_drewN (Below.refl _ _) nd)) (by unfold maxLen; omega) _ _ _ rfl rfl (key9 HN.out) _ [] (plainElem_bool Tryd.underlying4 true) ?_; intro w1 hown1 hgrow1; have HO1 := Aside0.mk hown1; have HG1 := Aside0.mk hgrow1; clear hown1 hgrow1))
                    go_roundw
                    case rel => exact ⟨j + 1, xs ++ [byts n], _, by omega, by go_num, ⟨(pw_below_drewN (below_alloc HB.out _) _).grown HG1.out (by simp; have := HB.out.size; omega) (fun k hk => by cases hk; omega)⟩, ⟨(HG1.out.block _ (by have := blk_lt HC.out; simp; omega) (by simp)).trans (blk_drewN (blk_alloc HC.out _) _)⟩, HO1, ⟨HS.out.put (byts n)⟩, HV⟩
                    case measure => simp [intOf]; omega
                · have HNM := Aside0.mk (show nameOk (byts n) = false by simpa using hnm)
                  have hv : validFrom [] l0 = false := by
                    rw [← HE.out, HD.out]
                    simp [validFrom, factOk, toF, hnm]
                  clear hnm
                  go_wp2_with (go_at_call 28; refine (isName_any n _ HN.out false HNM.out).mono ?_; rintro e w' ⟨rfl, ⟨nd, rfl⟩⟩)
                  go_ret
                  exact ⟨by first | (rw [hv]; rfl) | rfl, pw_below_drewN (below_alloc HB.out _) _⟩
              · have h7b : decide (hi ≤ 1000000) = false := decide_eq_false h7
                have hv : validFrom [] l0 = false := by
                  rw [← HE.out, HD.out]
                  simp [validFrom, factOk, toF, h7]
                go_wp2
                go_ret
                exact ⟨by first | (rw [hv]; rfl) | rfl, below_alloc HB.out _⟩
            · have h6b : decide (lo ≤ hi) = false := decide_eq_false h6
              have hv : validFrom [] l0 = false := by
                rw [← HE.out, HD.out]
                simp [validFrom, factOk, toF, h6]
              go_wp2
              go_ret
              exact ⟨by first | (rw [hv]; rfl) | rfl, below_alloc HB.out _⟩
          · have h5b : decide (0 ≤ lo) = false := decide_eq_false h5
            have hv : validFrom [] l0 = false := by
              rw [← HE.out, HD.out]
              simp [validFrom, factOk, toF, h5]
            go_wp2
            go_ret
            exact ⟨by first | (rw [hv]; rfl) | rfl, below_alloc HB.out _⟩
        · have h4b : (kd == 2) = false := by simpa using h4
          have hv : validFrom [] l0 = false := by
            rw [← HE.out, HD.out]
            simp [validFrom, factOk, toF, h1, h4]
          go_wp2
          go_ret
          exact ⟨by first | (rw [hv]; rfl) | rfl, below_alloc HB.out _⟩
    · have hd : decide ((j : Int) < (l0.length : Int)) = false := decide_eq_false (by omega)
      have hd2 : decide (j < l0.length) = false := decide_eq_false (by omega)
      have hcell : wr.cell? ⟨w.heap.size, 0, none⟩ = some (.slice A l0.length c) := (blk_cell HC.out 0).trans rfl
      have hv : validFrom [] l0 = true := by
        rw [← HE.out, List.drop_of_length_le (by omega)]
        rfl
      go_wp2
      go_ret
      have e5 : decide ((l0.length : Int) ≤ 60) = decide (l0.length ≤ 60) := decide_eq_decide.2 (by omega)
      exact ⟨by rw [← e5]; first | rfl | (simp; done) | (rw [hv]; rfl), HB.out⟩
end Go.Proofs.YtgddmfphlhlcjaaDoor.FcW
namespace Go.Proofs.YtgddmfphlhlcjaaDoor.FcW
open Go.RowKit Go.Proofs.YtgddmfphlhlcjaaDoorW.PrintWords
open Go.Proofs.YtgddmfphlhlcjaaDoor Go.Proofs.YtgddmfphlhlcjaaDoor.PF Go.Proofs.YtgddmfphlhlcjaaDoor.LxP Go.Proofs.YtgddmfphlhlcjaaDoor.LxW Go.Proofs.YtgddmfphlhlcjaaDoor.FcP
theorem validFrom_iff : ∀ (l : List S42) (xs : List (List UInt8)), validFrom xs l = true ↔ (∀ f ∈ l.map toF, factOk f = true) ∧ ((l.map toF).map (·.name)).Nodup ∧ ∀ n ∈ (l.map toF).map (·.name), n ∉ xs
  | [], xs => by simp [validFrom]
  | f :: r, xs => by
    have ih := validFrom_iff r (xs ++ [byts f.f0])
    simp only [validFrom, Bool.and_eq_true, ih, List.map_cons, List.mem_cons, List.nodup_cons, Bool.not_eq_true', decide_eq_false_iff_not, List.mem_append, List.not_mem_nil, or_false, forall_eq_or_imp]
    have e : (toF f).name = byts f.f0 := rfl
    rw [e]
    constructor
    · rintro ⟨⟨h1, h2⟩, h3, h4, h5⟩
      exact ⟨⟨h1, h3⟩, ⟨fun hm => (h5 _ hm) (.inr rfl), h4⟩, h2, fun n hn h => h5 n hn (.inl h)⟩
    · rintro ⟨⟨h1, h2⟩, ⟨h3, h4⟩, h5, h6⟩
      refine ⟨⟨h1, h5⟩, h2, h4, ?_⟩
      rintro n hn (h | h)
      · exact h6 n hn h
      · exact h3 (h ▸ hn)
theorem valid_eq (l : List S42) : (validFrom [] l && decide (l.length ≤ 60)) = decide (Valid (l.map toF)) := by
  rw [Bool.eq_iff_iff, Bool.and_eq_true, validFrom_iff, decide_eq_true_eq, decide_eq_true_eq]
  unfold Valid
  rw [List.length_map]
  constructor
  · rintro ⟨⟨h1, h2, _⟩, h3⟩; exact ⟨h1, h2, h3⟩
  · rintro ⟨h1, h2, h3⟩; exact ⟨⟨h1, h2, by simp⟩, h3⟩
/-- Names and lists of a size that a machine holds. -/
def Small (l : List S42) : Prop := l.length ≤ 1000000 ∧ ∀ f ∈ l, f.f0.size ≤ 1000000
instance (l : List S42) : Decidable (Small l) := by unfold Small; infer_instance
end Go.Proofs.YtgddmfphlhlcjaaDoor.FcW
namespace Go.Proofs.YtgddmfphlhlcjaaDoor.PF
set_option linter.unusedVariables false
set_option linter.unusedSimpArgs false
open Go.RowKit Go.Proofs.YtgddmfphlhlcjaaDoorW.PrintWords Go.Proofs.YtgddmfphlhlcjaaDoorW.PrintLast Go.Proofs.YtgddmfphlhlcjaaDoorW.PrintMore
def fact_Valid.f (l : List S42) : Option Bool := if FcW.Small l then some (decide (FcP.Valid (l.map FcW.toF))) else none
theorem fact_Valid.calls (A : Option Addr) (c : Nat) (l : List S42) (r : Bool) (w : World) (hr : Kd.C k42 w A l.length l) (hc : l.length ≤ c) (h : fact_Valid.f l = some r) :
    Calls Tryd.prog 11 #[.agg #[.slice A l.length c]] w fun e w' => e = .returned (.bool r) ∧ Below w.heap.size w w' := by
  unfold fact_Valid.f at h
  by_cases hs : FcW.Small l
  · rw [if_pos hs] at h
    injection h with h
    subst h
    rw [← FcW.valid_eq]
    exact FcW.valid_any A c l w hr hs.1 hs.2
  · rw [if_neg hs] at h; cases h
end Go.Proofs.YtgddmfphlhlcjaaDoor.PF
