/- The reader of tokens: take and check. -/
import Derived.Test.YtgddmfphlhlcjaaDoorMg1
import Derived.Recover
import Derived.Defers
import Derived.WalkLawsBesides
namespace Go.Proofs.YtgddmfphlhlcjaaDoor.FcW
open Go.RowKit Go.Proofs.YtgddmfphlhlcjaaDoorW.PrintWords Go.Proofs.YtgddmfphlhlcjaaDoorW.PrintLast Go.Proofs.YtgddmfphlhlcjaaDoorW.PrintMore
open Go.Proofs.YtgddmfphlhlcjaaDoor Go.Proofs.YtgddmfphlhlcjaaDoor.PF
set_option linter.unusedVariables false
set_option linter.unusedSimpArgs false

theorem at_world {P : Program} {c : Code} {K : Exit → Act → World → Prop} {a : Act} {w0 : World} (F : World → Prop) (h0 : F w0) (h : ∀ w', F w' → Code.wp P c K a w') : Code.wp P c K a w0 := h w0 h0
theorem grown_far {w w1 : World} {row : Option Nat} (h : w.grownBy w1 row) {p : Addr} (hp : w.heap.size ≤ p.block) (u : Value) : w.grownBy (w1.setCell p u) row :=
  ⟨h.os, h.tape, h.output, by simpa [World.setCell] using h.size, fun i hi hr => (Below.heap_setCell w1 p u i (by omega)).trans (h.block i hi hr)⟩
theorem grown_set {w w1 : World} {g : Nat} (h : w.grownBy w1 (some g)) (j : Nat) (u : Value) : w.grownBy (w1.setCell ⟨g, j, none⟩ u) (some g) :=
  ⟨h.os, h.tape, h.output, by simpa [World.setCell] using h.size, fun i hi hr => (Below.heap_setCell w1 ⟨g, j, none⟩ u i (fun e => hr (by rw [e]))).trans (h.block i hi hr)⟩
theorem grown_of_below {w w1 : World} (h : Below w.heap.size w w1) (row : Option Nat) : w.grownBy w1 row := ⟨h.os, h.tape, h.output, h.size, fun i hi _ => h.block i hi⟩

theorem cell_alloc_ {w : World} {p : Addr} {v : Value} {o : Obj} (h : w.cell? p = some v) : (w.alloc o).cell? p = some v := ((below_alloc (Below.refl _ w) o).cell (World.block_lt_of_cell? w _ h)).trans h
/-- The reader: its tokens, its place, the length of the text. -/
def RdAt (w : World) (g : Nat) (A : Option Addr) (c n : Nat) (i en : Int) : Prop := w.heap[g]? = some (.cells #[.slice A n c, .int .i64 i, .int .i64 en] 72 (0, 0))

set_option maxHeartbeats 4000000 in
set_option maxRecDepth 100000 in
theorem check_ok (e : Int) (a b c : Int) (t : ByteArray) (w : World) :
    Calls Tryd.prog 35 #[.bool false, .int .i64 e, .agg #[.int .i64 a, .int .i64 b, .int .i64 c, .string t]] w fun e' w' => e' = .returned (.tuple #[]) ∧ Below w.heap.size w w' := by
  go_enter Tryd.func35, Tryd.ntmps35
  go_wp2
  go_end0
  exact ⟨rfl, below_alloc (Below.refl _ _) _⟩
set_option maxHeartbeats 4000000 in
set_option maxRecDepth 100000 in
theorem check_bad (e : Int) (a b c : Int) (t : ByteArray) (w : World) :
    Calls Tryd.prog 35 #[.bool true, .int .i64 e, .agg #[.int .i64 a, .int .i64 b, .int .i64 c, .string t]] w fun e' w' => e' = .panicked [{ v := .iface 93 (.agg #[.int .i64 e, .int .i64 b]), recovered := false }] ∧ Below w.heap.size w w' := by
  go_enter Tryd.func35, Tryd.ntmps35
  go_wp2
  exact ⟨rfl, rfl, below_alloc (Below.refl _ _) _⟩


set_option maxHeartbeats 8000000 in
set_option maxRecDepth 100000 in
theorem take_end (g : Nat) (A : Option Addr) (c : Nat) (ts : List S77) (i : Nat) (en kind : Int) (tx : ByteArray) (w : World) (hg : RdAt w g A c ts.length ts.length en) :
    Calls Tryd.prog 34 #[.pointer (some ⟨g, 0, none⟩), .int .i64 kind, .string tx] w fun e' w' => e' = .panicked [{ v := .iface 93 (.agg #[.int .i64 6, .int .i64 en]), recovered := false }] ∧ Below w.heap.size w w' := by
  have hlt := blk_lt hg
  have HG := Aside0.mk hg
  clear hg
  go_enter Tryd.func34, Tryd.ntmps34
  go_upto_region 1 with (first | ((with_reducible refine gate_dst (N := 6) rfl ?_); (try (refine gate_guard (by rfl) ?_; dsimp only)); refine box_event ?hg (N := 6) ?hd (cs := #[.int .i64 0, .int .i64 0, .int .i64 0, .string (⟨#[]⟩ : ByteArray)]) (t := 77) ?hr ?_; (case hd => rfl); (case hg => rfl); (case hr => first | (go_simp; done) | (go_simp; rfl)); intro b6 hg6 w1 hbox hb; have BK6 := Aside0.mk hbox; have HB := Aside0.mk hb; have GE6 := Aside0.mk (Nat.le_of_eq hg6.symm); clear hbox hb hg6))
  have hc0 := (blk_cell (blk_below HG.out HB.out) 0).trans (show _ = some (Value.slice _ ts.length c) from rfl)
  have hc1 := (blk_cell (blk_below HG.out HB.out) 1).trans (show _ = some (Value.int .i64 _) from rfl)
  have hc2 := (blk_cell (blk_below HG.out HB.out) 2).trans (show _ = some (Value.int .i64 en) from rfl)
  go_quiet (fail)
  go_wp2
  exact ⟨rfl, rfl, pw_below_drewN HB.out _⟩


set_option maxHeartbeats 8000000 in
set_option maxRecDepth 100000 in
theorem take_badK (g : Nat) (A : Option Addr) (c : Nat) (ts : List S77) (i : Nat) (en kind : Int) (tx : ByteArray) (w : World) (hg : RdAt w g A c ts.length i en) (hr : Kd.C k77 w A ts.length ts) (hi : i < ts.length) (a b n : Int) (x : ByteArray) (ht : rd_T77 ts (i : Int) = ⟨a, b, n, x⟩) (hk : (a != kind) = true) :
    Calls Tryd.prog 34 #[.pointer (some ⟨g, 0, none⟩), .int .i64 kind, .string tx] w fun e' w' => e' = .panicked [{ v := .iface 93 (.agg #[.int .i64 5, .int .i64 b]), recovered := false }] ∧ Below w.heap.size w w' := by
  have hi2 : ((i : Int) == (ts.length : Int)) = false := by rw [beq_eq_false_iff_ne]; omega
  have hi3 : (i == ts.length) = false := by rw [beq_eq_false_iff_ne]; omega
  have p1 := eq_true (show (0 : Int) ≤ (i : Int) by omega)
  have q1 := eq_true (show (i : Int) < (ts.length : Int) by omega)
  have q2 := eq_true (show i < ts.length by omega)
  have hmx := Kd.C_max hr
  obtain ⟨ad, e0, hx0, hx1, hx2, hx3⟩ := at_T77 hr (i : Int) (by omega) (by omega)
  cases e0
  clear hr
  rw [ht] at hx0 hx1 hx2 hx3
  simp only [Int.toNat_natCast] at hx0 hx1 hx2 hx3
  have hlt := blk_lt hg
  have HG := Aside0.mk hg
  clear hg
  go_enter Tryd.func34, Tryd.ntmps34
  go_upto_region 1 with (first | ((with_reducible refine gate_dst (N := 6) rfl ?_); (try (refine gate_guard (by rfl) ?_; dsimp only)); refine box_event ?hg (N := 6) ?hd (cs := #[.int .i64 0, .int .i64 0, .int .i64 0, .string (⟨#[]⟩ : ByteArray)]) (t := 77) ?hr ?_; (case hd => rfl); (case hg => rfl); (case hr => first | (go_simp; done) | (go_simp; rfl)); intro b6 hg6 w1 hbox hb; have BK6 := Aside0.mk hbox; have HB := Aside0.mk hb; have GE6 := Aside0.mk (Nat.le_of_eq hg6.symm); clear hbox hb hg6))
  have hc0 := (blk_cell (blk_below HG.out HB.out) 0).trans (show _ = some (Value.slice _ ts.length c) from rfl)
  have hc1 := (blk_cell (blk_below HG.out HB.out) 1).trans (show _ = some (Value.int .i64 _) from rfl)
  have hc2 := (blk_cell (blk_below HG.out HB.out) 2).trans (show _ = some (Value.int .i64 en) from rfl)
  replace hx0 := (HB.out.cell (World.block_lt_of_cell? w _ hx0)).trans hx0
  replace hx1 := (HB.out.cell (World.block_lt_of_cell? w _ hx1)).trans hx1
  replace hx2 := (HB.out.cell (World.block_lt_of_cell? w _ hx2)).trans hx2
  replace hx3 := (HB.out.cell (World.block_lt_of_cell? w _ hx3)).trans hx3
  go_quiet (fail)
  go_upto_region 3 with (fail)
  obtain ⟨w3, hw3⟩ : ∃ w3, (w1.drewN nq).drew = w3 := ⟨_, rfl⟩
  have HB3 := Aside0.mk (show Below w.heap.size w w3 by rw [← hw3]; exact below_drew1 (pw_below_drewN HB.out _))
  have BK63 := Aside0.mk (show w3.heap[b6]? = some (.cells #[.int .i64 0, .int .i64 0, .int .i64 0, .string (⟨#[]⟩ : ByteArray)] 77 (0, 0)) by rw [← hw3]; exact blk_drew (blk_drewN BK6.out _))
  refine start_ (n := 12) (S := fun w' => w'.cell? ⟨g, 0, none⟩ = some (.slice (some ad) ts.length c) ∧ w'.cell? ⟨g, 1, none⟩ = some (.int .i64 (i : Int)) ∧ w'.cell? (ad.add (i * 4)) = some (.int .i64 a) ∧ w'.cell? ⟨(ad.add (i * 4)).block, (ad.add (i * 4)).off + 1, none⟩ = some (.int .i64 b) ∧ w'.cell? ⟨(ad.add (i * 4)).block, (ad.add (i * 4)).off + 2, none⟩ = some (.int .i64 n) ∧ w'.cell? ⟨(ad.add (i * 4)).block, (ad.add (i * 4)).off + 3, none⟩ = some (.string x)) (ds := [11]) #[false, false, false, false, false, false, false, false, false, false, false, false] (by kernel_rfl) rfl rfl ⟨hc0, hc1, hx0, hx1, hx2, hx3⟩ (fun hHeld => ?_)
  rw [hw3] at hHeld ⊢
  clear hw3 HB BK6 hc0 hc1 hc2 hx0 hx1 hx2 hx3
  refine pure_ (i := 0) (N := some 24) (v := ?_) (a' := ?_) #[true, false, false, false, false, false, false, false, false, false, false, false] rfl rfl (by kernel_rfl) (fun _ _ _ h => h) (Or.inl ⟨by rfl, ?_⟩) ?_ ?_
  rotate_left
  · intro w'
    go_simp
    with_reducible rfl
  rotate_left
  · simp only [Act.put, List.setIfInBounds_toArray, List.set_cons_zero, List.set_cons_succ, i64_w, i32_w]
    rfl
  refine pure_ (i := 1) (N := some 25) (v := ?_) (a' := ?_) #[true, true, false, false, false, false, false, false, false, false, false, false] rfl rfl (by kernel_rfl) (fun _ _ _ h => h) (Or.inl ⟨by rfl, ?_⟩) ?_ ?_
  rotate_left
  · intro w'
    go_simp
    with_reducible rfl
  rotate_left
  · simp only [Act.put, List.setIfInBounds_toArray, List.set_cons_zero, List.set_cons_succ, i64_w, i32_w]
    rfl
  refine pure_ (i := 2) (N := some 26) (v := ?_) (a' := ?_) #[true, true, true, false, false, false, false, false, false, false, false, false] rfl rfl (by kernel_rfl) (fun _ _ _ h => h) (Or.inl ⟨by rfl, ?_⟩) ?_ ?_
  rotate_left
  · intro w'
    go_simp
    with_reducible rfl
  rotate_left
  · simp only [Act.put, List.setIfInBounds_toArray, List.set_cons_zero, List.set_cons_succ, i64_w, i32_w]
    rfl
  refine take_ (i := 3) (N := some 27) (v := ?_) (a' := ?_) #[true, true, true, true, false, false, false, false, false, false, false, false] rfl rfl (by kernel_rfl) (fun _ _ _ h => h) (Or.inl ⟨by rfl, ?_⟩) hHeld ?_ ?_
  rotate_left
  · rintro w' ⟨s0, s1, s2, s3, s4, s5⟩
    go_simp
    with_reducible rfl
  rotate_left
  · simp only [Act.put, List.setIfInBounds_toArray, List.set_cons_zero, List.set_cons_succ, i64_w, i32_w]
    rfl
  refine pure_ (i := 4) (N := some 28) (v := ?_) (a' := ?_) #[true, true, true, true, true, false, false, false, false, false, false, false] rfl rfl (by kernel_rfl) (fun _ _ _ h => h) (Or.inl ⟨by rfl, ?_⟩) ?_ ?_
  rotate_left
  · intro w'
    go_simp
    with_reducible rfl
  rotate_left
  · simp only [Act.put, List.setIfInBounds_toArray, List.set_cons_zero, List.set_cons_succ, i64_w, i32_w]
    rfl
  refine pure_ (i := 5) (N := some 29) (v := ?_) (a' := ?_) #[true, true, true, true, true, true, false, false, false, false, false, false] rfl rfl (by kernel_rfl) (fun _ _ _ h => h) (Or.inl ⟨by rfl, ?_⟩) ?_ ?_
  rotate_left
  · intro w'
    go_simp
    with_reducible rfl
  rotate_left
  · simp only [Act.put, List.setIfInBounds_toArray, List.set_cons_zero, List.set_cons_succ, i64_w, i32_w]
    rfl
  refine pure_ (i := 6) (N := some 30) (v := ?_) (a' := ?_) #[true, true, true, true, true, true, true, false, false, false, false, false] rfl rfl (by kernel_rfl) (fun _ _ _ h => h) (Or.inl ⟨by rfl, ?_⟩) ?_ ?_
  rotate_left
  · intro w'
    go_simp
    with_reducible rfl
  rotate_left
  · simp only [Act.put, List.setIfInBounds_toArray, List.set_cons_zero, List.set_cons_succ, i64_w, i32_w]
    rfl
  refine take_ (i := 7) (N := some 31) (v := ?_) (a' := ?_) #[true, true, true, true, true, true, true, true, false, false, false, false] rfl rfl (by kernel_rfl) (fun _ _ _ h => h) (Or.inl ⟨by rfl, ?_⟩) hHeld ?_ ?_
  rotate_left
  · rintro w' ⟨s0, s1, s2, s3, s4, s5⟩
    go_simp
    with_reducible rfl
  rotate_left
  · simp only [Act.put, List.setIfInBounds_toArray, List.set_cons_zero, List.set_cons_succ, i64_w, i32_w]
    rfl
  refine pure_ (i := 8) (N := some 32) (v := ?_) (a' := ?_) #[true, true, true, true, true, true, true, true, true, false, false, false] rfl rfl (by kernel_rfl) (fun _ _ _ h => h) (Or.inl ⟨by rfl, ?_⟩) ?_ ?_
  rotate_left
  · intro w'
    go_simp
    with_reducible rfl
  rotate_left
  · simp only [Act.put, List.setIfInBounds_toArray, List.set_cons_zero, List.set_cons_succ, i64_w, i32_w]
    rfl
  refine take_ (i := 9) (N := some 33) (v := ?_) (a' := ?_) #[true, true, true, true, true, true, true, true, true, true, false, false] rfl rfl (by kernel_rfl) (fun _ _ _ h => h) (Or.inl ⟨by rfl, ?_⟩) hHeld ?_ ?_
  rotate_left
  · rintro w' ⟨s0, s1, s2, s3, s4, s5⟩
    go_simp
    with_reducible rfl
  rotate_left
  · simp only [Act.put, List.setIfInBounds_toArray, List.set_cons_zero, List.set_cons_succ, i64_w, i32_w]
    rfl
  refine one_ (i := 10) (N := some 7) #[true, true, true, true, true, true, true, true, true, true, true, false] rfl rfl (by kernel_rfl) (by decide) (fun K hK => ?_)
  refine value_ (v := .pointer (some ⟨w3.heap.size, 0, none⟩)) (w1 := w3.alloc (.cells #[.int .i64 0, .int .i64 0, .int .i64 0, .string (⟨#[]⟩ : ByteArray)] 77)) (by rfl) rfl (by first | (go_simp; done) | (go_simp; rfl)) ?_
  refine hK.out _ _ ⟨cell_alloc_ hHeld.1, cell_alloc_ hHeld.2.1, cell_alloc_ hHeld.2.2.1, cell_alloc_ hHeld.2.2.2.1, cell_alloc_ hHeld.2.2.2.2.1, cell_alloc_ hHeld.2.2.2.2.2⟩ (fun hHeld => ?_)
  clear hK K
  refine norm_ (a' := ?_) ?_ ?_
  rotate_left
  · show Act.put _ (some 7) _ = _
    simp only [Act.put, List.setIfInBounds_toArray, List.set_cons_zero, List.set_cons_succ, i64_w, i32_w]
    rfl
  have BK67 := Aside0.mk (blk_alloc BK63.out (.cells #[.int .i64 0, .int .i64 0, .int .i64 0, .string (⟨#[]⟩ : ByteArray)] 77))
  have BK7 := Aside0.mk (blk_new w3 (.cells #[.int .i64 0, .int .i64 0, .int .i64 0, .string (⟨#[]⟩ : ByteArray)] 77))
  have HB7 := Aside0.mk (below_alloc HB3.out (.cells #[.int .i64 0, .int .i64 0, .int .i64 0, .string (⟨#[]⟩ : ByteArray)] 77))
  have NE := Aside0.mk (Nat.ne_of_lt (blk_lt BK63.out))
  have GE7 := Aside0.mk HB3.out.size
  generalize w3.heap.size = b7 at BK7 NE GE7 ⊢
  generalize w3.alloc (.cells #[.int .i64 0, .int .i64 0, .int .i64 0, .string (⟨#[]⟩ : ByteArray)] 77) = w4 at BK67 BK7 HB7 hHeld ⊢
  clear HB3 BK63
  refine last_ (i := 11) (N := none) #[true, true, true, true, true, true, true, true, true, true, true, true] rfl rfl (by kernel_rfl) (by decide) (fun K hK => ?_)
  have z0 := (blk_cell BK7.out 0).trans (show _ = some (Value.int .i64 0) from rfl)
  have z1 := (blk_cell BK7.out 1).trans (show _ = some (Value.int .i64 0) from rfl)
  have z2 := (blk_cell BK7.out 2).trans (show _ = some (Value.int .i64 0) from rfl)
  have z3 := (blk_cell BK7.out 3).trans (show _ = some (Value.string (⟨#[]⟩ : ByteArray)) from rfl)
  have f0 := blk_frozen BK7.out 0
  have f1 := blk_frozen BK7.out 1
  have f2 := blk_frozen BK7.out 2
  have f3 := blk_frozen BK7.out 3
  refine skip_ (w1 := (((w4.setCell ⟨b7, 0, none⟩ (.int .i64 a)).setCell ⟨b7, 1, none⟩ (.int .i64 b)).setCell ⟨b7, 2, none⟩ (.int .i64 n)).setCell ⟨b7, 3, none⟩ (.string x)) (by rfl) rfl (by first | (go_simp; done) | (go_simp; rfl)) ?_
  refine hK.out _ _ ?_
  clear hK K z0 z1 z2 z3 f0 f1 f2 f3 hHeld
  refine done_ (by kernel_rfl) ?_
  have BK7' := Aside0.mk (blk_put (blk_put (blk_put (blk_put BK7.out 0 (.int .i64 a) rfl) 1 (.int .i64 b) rfl) 2 (.int .i64 n) rfl) 3 (.string x) rfl)
  have BK6' := Aside0.mk (blk_far (blk_far (blk_far (blk_far BK67.out (p := ⟨b7, 0, none⟩) NE.out (.int .i64 a)) (p := ⟨b7, 1, none⟩) NE.out (.int .i64 b)) (p := ⟨b7, 2, none⟩) NE.out (.int .i64 n)) (p := ⟨b7, 3, none⟩) NE.out (.string x))
  have HB' := Aside0.mk (below_set (j := 3) (v := .string x) (below_set (j := 2) (v := .int .i64 n) (below_set (j := 1) (v := .int .i64 b) (below_set (j := 0) (v := .int .i64 a) HB7.out GE7.out) GE7.out) GE7.out) GE7.out)
  generalize (((w4.setCell ⟨b7, 0, none⟩ (.int .i64 a)).setCell ⟨b7, 1, none⟩ (.int .i64 b)).setCell ⟨b7, 2, none⟩ (.int .i64 n)).setCell ⟨b7, 3, none⟩ (.string x) = w5 at BK7' BK6' HB' ⊢
  clear BK7 BK67 HB7
  have hg5 := blk_below HG.out HB'.out
  have k1 := (blk_cell hg5 1).trans (show _ = some (Value.int .i64 (i : Int)) from rfl)
  have kf1 := blk_frozen hg5 1
  have t0 := (blk_cell BK7'.out 0).trans (show _ = some (Value.int .i64 a) from rfl)
  have t1 := (blk_cell BK7'.out 1).trans (show _ = some (Value.int .i64 b) from rfl)
  have t2 := (blk_cell BK7'.out 2).trans (show _ = some (Value.int .i64 n) from rfl)
  have t3 := (blk_cell BK7'.out 3).trans (show _ = some (Value.string x) from rfl)
  go_wp2
  exact ⟨rfl, rfl, HB'.out⟩


set_option maxHeartbeats 8000000 in
set_option maxRecDepth 100000 in
theorem take_badT (g : Nat) (A : Option Addr) (c : Nat) (ts : List S77) (i : Nat) (en kind : Int) (tx : ByteArray) (w : World) (hg : RdAt w g A c ts.length i en) (hr : Kd.C k77 w A ts.length ts) (hi : i < ts.length) (a b n : Int) (x : ByteArray) (ht : rd_T77 ts (i : Int) = ⟨a, b, n, x⟩) (hk : (a != kind) = false) (hq : (tx.toList == []) = false) (hx : (x.toList == tx.toList) = false) :
    Calls Tryd.prog 34 #[.pointer (some ⟨g, 0, none⟩), .int .i64 kind, .string tx] w fun e' w' => e' = .panicked [{ v := .iface 93 (.agg #[.int .i64 5, .int .i64 b]), recovered := false }] ∧ Below w.heap.size w w' := by
  have hi2 : ((i : Int) == (ts.length : Int)) = false := by rw [beq_eq_false_iff_ne]; omega
  have hi3 : (i == ts.length) = false := by rw [beq_eq_false_iff_ne]; omega
  have p1 := eq_true (show (0 : Int) ≤ (i : Int) by omega)
  have q1 := eq_true (show (i : Int) < (ts.length : Int) by omega)
  have q2 := eq_true (show i < ts.length by omega)
  have hmx := Kd.C_max hr
  obtain ⟨ad, e0, hx0, hx1, hx2, hx3⟩ := at_T77 hr (i : Int) (by omega) (by omega)
  cases e0
  clear hr
  rw [ht] at hx0 hx1 hx2 hx3
  simp only [Int.toNat_natCast] at hx0 hx1 hx2 hx3
  have hlt := blk_lt hg
  have HG := Aside0.mk hg
  clear hg
  go_enter Tryd.func34, Tryd.ntmps34
  go_upto_region 1 with (first | ((with_reducible refine gate_dst (N := 6) rfl ?_); (try (refine gate_guard (by rfl) ?_; dsimp only)); refine box_event ?hg (N := 6) ?hd (cs := #[.int .i64 0, .int .i64 0, .int .i64 0, .string (⟨#[]⟩ : ByteArray)]) (t := 77) ?hr ?_; (case hd => rfl); (case hg => rfl); (case hr => first | (go_simp; done) | (go_simp; rfl)); intro b6 hg6 w1 hbox hb; have BK6 := Aside0.mk hbox; have HB := Aside0.mk hb; have GE6 := Aside0.mk (Nat.le_of_eq hg6.symm); clear hbox hb hg6))
  have hc0 := (blk_cell (blk_below HG.out HB.out) 0).trans (show _ = some (Value.slice _ ts.length c) from rfl)
  have hc1 := (blk_cell (blk_below HG.out HB.out) 1).trans (show _ = some (Value.int .i64 _) from rfl)
  have hc2 := (blk_cell (blk_below HG.out HB.out) 2).trans (show _ = some (Value.int .i64 en) from rfl)
  replace hx0 := (HB.out.cell (World.block_lt_of_cell? w _ hx0)).trans hx0
  replace hx1 := (HB.out.cell (World.block_lt_of_cell? w _ hx1)).trans hx1
  replace hx2 := (HB.out.cell (World.block_lt_of_cell? w _ hx2)).trans hx2
  replace hx3 := (HB.out.cell (World.block_lt_of_cell? w _ hx3)).trans hx3
  go_quiet (fail)
  go_upto_region 3 with (fail)
  obtain ⟨w3, hw3⟩ : ∃ w3, (w1.drewN nq).drew = w3 := ⟨_, rfl⟩
  have HB3 := Aside0.mk (show Below w.heap.size w w3 by rw [← hw3]; exact below_drew1 (pw_below_drewN HB.out _))
  have BK63 := Aside0.mk (show w3.heap[b6]? = some (.cells #[.int .i64 0, .int .i64 0, .int .i64 0, .string (⟨#[]⟩ : ByteArray)] 77 (0, 0)) by rw [← hw3]; exact blk_drew (blk_drewN BK6.out _))
  refine start_ (n := 12) (S := fun w' => w'.cell? ⟨g, 0, none⟩ = some (.slice (some ad) ts.length c) ∧ w'.cell? ⟨g, 1, none⟩ = some (.int .i64 (i : Int)) ∧ w'.cell? (ad.add (i * 4)) = some (.int .i64 a) ∧ w'.cell? ⟨(ad.add (i * 4)).block, (ad.add (i * 4)).off + 1, none⟩ = some (.int .i64 b) ∧ w'.cell? ⟨(ad.add (i * 4)).block, (ad.add (i * 4)).off + 2, none⟩ = some (.int .i64 n) ∧ w'.cell? ⟨(ad.add (i * 4)).block, (ad.add (i * 4)).off + 3, none⟩ = some (.string x)) (ds := [11]) #[false, false, false, false, false, false, false, false, false, false, false, false] (by kernel_rfl) rfl rfl ⟨hc0, hc1, hx0, hx1, hx2, hx3⟩ (fun hHeld => ?_)
  rw [hw3] at hHeld ⊢
  clear hw3 HB BK6 hc0 hc1 hc2 hx0 hx1 hx2 hx3
  refine pure_ (i := 0) (N := some 24) (v := ?_) (a' := ?_) #[true, false, false, false, false, false, false, false, false, false, false, false] rfl rfl (by kernel_rfl) (fun _ _ _ h => h) (Or.inl ⟨by rfl, ?_⟩) ?_ ?_
  rotate_left
  · intro w'
    go_simp
    with_reducible rfl
  rotate_left
  · simp only [Act.put, List.setIfInBounds_toArray, List.set_cons_zero, List.set_cons_succ, i64_w, i32_w]
    rfl
  refine pure_ (i := 1) (N := some 25) (v := ?_) (a' := ?_) #[true, true, false, false, false, false, false, false, false, false, false, false] rfl rfl (by kernel_rfl) (fun _ _ _ h => h) (Or.inl ⟨by rfl, ?_⟩) ?_ ?_
  rotate_left
  · intro w'
    go_simp
    with_reducible rfl
  rotate_left
  · simp only [Act.put, List.setIfInBounds_toArray, List.set_cons_zero, List.set_cons_succ, i64_w, i32_w]
    rfl
  refine pure_ (i := 2) (N := some 26) (v := ?_) (a' := ?_) #[true, true, true, false, false, false, false, false, false, false, false, false] rfl rfl (by kernel_rfl) (fun _ _ _ h => h) (Or.inl ⟨by rfl, ?_⟩) ?_ ?_
  rotate_left
  · intro w'
    go_simp
    with_reducible rfl
  rotate_left
  · simp only [Act.put, List.setIfInBounds_toArray, List.set_cons_zero, List.set_cons_succ, i64_w, i32_w]
    rfl
  refine take_ (i := 3) (N := some 27) (v := ?_) (a' := ?_) #[true, true, true, true, false, false, false, false, false, false, false, false] rfl rfl (by kernel_rfl) (fun _ _ _ h => h) (Or.inl ⟨by rfl, ?_⟩) hHeld ?_ ?_
  rotate_left
  · rintro w' ⟨s0, s1, s2, s3, s4, s5⟩
    go_simp
    with_reducible rfl
  rotate_left
  · simp only [Act.put, List.setIfInBounds_toArray, List.set_cons_zero, List.set_cons_succ, i64_w, i32_w]
    rfl
  refine pure_ (i := 4) (N := some 28) (v := ?_) (a' := ?_) #[true, true, true, true, true, false, false, false, false, false, false, false] rfl rfl (by kernel_rfl) (fun _ _ _ h => h) (Or.inl ⟨by rfl, ?_⟩) ?_ ?_
  rotate_left
  · intro w'
    go_simp
    with_reducible rfl
  rotate_left
  · simp only [Act.put, List.setIfInBounds_toArray, List.set_cons_zero, List.set_cons_succ, i64_w, i32_w]
    rfl
  refine pure_ (i := 5) (N := some 29) (v := ?_) (a' := ?_) #[true, true, true, true, true, true, false, false, false, false, false, false] rfl rfl (by kernel_rfl) (fun _ _ _ h => h) (Or.inl ⟨by rfl, ?_⟩) ?_ ?_
  rotate_left
  · intro w'
    go_simp
    with_reducible rfl
  rotate_left
  · simp only [Act.put, List.setIfInBounds_toArray, List.set_cons_zero, List.set_cons_succ, i64_w, i32_w]
    rfl
  refine pure_ (i := 6) (N := some 30) (v := ?_) (a' := ?_) #[true, true, true, true, true, true, true, false, false, false, false, false] rfl rfl (by kernel_rfl) (fun _ _ _ h => h) (Or.inl ⟨by rfl, ?_⟩) ?_ ?_
  rotate_left
  · intro w'
    go_simp
    with_reducible rfl
  rotate_left
  · simp only [Act.put, List.setIfInBounds_toArray, List.set_cons_zero, List.set_cons_succ, i64_w, i32_w]
    rfl
  refine take_ (i := 7) (N := some 31) (v := ?_) (a' := ?_) #[true, true, true, true, true, true, true, true, false, false, false, false] rfl rfl (by kernel_rfl) (fun _ _ _ h => h) (Or.inl ⟨by rfl, ?_⟩) hHeld ?_ ?_
  rotate_left
  · rintro w' ⟨s0, s1, s2, s3, s4, s5⟩
    go_simp
    with_reducible rfl
  rotate_left
  · simp only [Act.put, List.setIfInBounds_toArray, List.set_cons_zero, List.set_cons_succ, i64_w, i32_w]
    rfl
  refine pure_ (i := 8) (N := some 32) (v := ?_) (a' := ?_) #[true, true, true, true, true, true, true, true, true, false, false, false] rfl rfl (by kernel_rfl) (fun _ _ _ h => h) (Or.inl ⟨by rfl, ?_⟩) ?_ ?_
  rotate_left
  · intro w'
    go_simp
    with_reducible rfl
  rotate_left
  · simp only [Act.put, List.setIfInBounds_toArray, List.set_cons_zero, List.set_cons_succ, i64_w, i32_w]
    rfl
  refine take_ (i := 9) (N := some 33) (v := ?_) (a' := ?_) #[true, true, true, true, true, true, true, true, true, true, false, false] rfl rfl (by kernel_rfl) (fun _ _ _ h => h) (Or.inl ⟨by rfl, ?_⟩) hHeld ?_ ?_
  rotate_left
  · rintro w' ⟨s0, s1, s2, s3, s4, s5⟩
    go_simp
    with_reducible rfl
  rotate_left
  · simp only [Act.put, List.setIfInBounds_toArray, List.set_cons_zero, List.set_cons_succ, i64_w, i32_w]
    rfl
  refine one_ (i := 10) (N := some 7) #[true, true, true, true, true, true, true, true, true, true, true, false] rfl rfl (by kernel_rfl) (by decide) (fun K hK => ?_)
  refine value_ (v := .pointer (some ⟨w3.heap.size, 0, none⟩)) (w1 := w3.alloc (.cells #[.int .i64 0, .int .i64 0, .int .i64 0, .string (⟨#[]⟩ : ByteArray)] 77)) (by rfl) rfl (by first | (go_simp; done) | (go_simp; rfl)) ?_
  refine hK.out _ _ ⟨cell_alloc_ hHeld.1, cell_alloc_ hHeld.2.1, cell_alloc_ hHeld.2.2.1, cell_alloc_ hHeld.2.2.2.1, cell_alloc_ hHeld.2.2.2.2.1, cell_alloc_ hHeld.2.2.2.2.2⟩ (fun hHeld => ?_)
  clear hK K
  refine norm_ (a' := ?_) ?_ ?_
  rotate_left
  · show Act.put _ (some 7) _ = _
    simp only [Act.put, List.setIfInBounds_toArray, List.set_cons_zero, List.set_cons_succ, i64_w, i32_w]
    rfl
  have BK67 := Aside0.mk (blk_alloc BK63.out (.cells #[.int .i64 0, .int .i64 0, .int .i64 0, .string (⟨#[]⟩ : ByteArray)] 77))
  have BK7 := Aside0.mk (blk_new w3 (.cells #[.int .i64 0, .int .i64 0, .int .i64 0, .string (⟨#[]⟩ : ByteArray)] 77))
  have HB7 := Aside0.mk (below_alloc HB3.out (.cells #[.int .i64 0, .int .i64 0, .int .i64 0, .string (⟨#[]⟩ : ByteArray)] 77))
  have NE := Aside0.mk (Nat.ne_of_lt (blk_lt BK63.out))
  have GE7 := Aside0.mk HB3.out.size
  generalize w3.heap.size = b7 at BK7 NE GE7 ⊢
  generalize w3.alloc (.cells #[.int .i64 0, .int .i64 0, .int .i64 0, .string (⟨#[]⟩ : ByteArray)] 77) = w4 at BK67 BK7 HB7 hHeld ⊢
  clear HB3 BK63
  refine last_ (i := 11) (N := none) #[true, true, true, true, true, true, true, true, true, true, true, true] rfl rfl (by kernel_rfl) (by decide) (fun K hK => ?_)
  have z0 := (blk_cell BK7.out 0).trans (show _ = some (Value.int .i64 0) from rfl)
  have z1 := (blk_cell BK7.out 1).trans (show _ = some (Value.int .i64 0) from rfl)
  have z2 := (blk_cell BK7.out 2).trans (show _ = some (Value.int .i64 0) from rfl)
  have z3 := (blk_cell BK7.out 3).trans (show _ = some (Value.string (⟨#[]⟩ : ByteArray)) from rfl)
  have f0 := blk_frozen BK7.out 0
  have f1 := blk_frozen BK7.out 1
  have f2 := blk_frozen BK7.out 2
  have f3 := blk_frozen BK7.out 3
  refine skip_ (w1 := (((w4.setCell ⟨b7, 0, none⟩ (.int .i64 a)).setCell ⟨b7, 1, none⟩ (.int .i64 b)).setCell ⟨b7, 2, none⟩ (.int .i64 n)).setCell ⟨b7, 3, none⟩ (.string x)) (by rfl) rfl (by first | (go_simp; done) | (go_simp; rfl)) ?_
  refine hK.out _ _ ?_
  clear hK K z0 z1 z2 z3 f0 f1 f2 f3 hHeld
  refine done_ (by kernel_rfl) ?_
  have BK7' := Aside0.mk (blk_put (blk_put (blk_put (blk_put BK7.out 0 (.int .i64 a) rfl) 1 (.int .i64 b) rfl) 2 (.int .i64 n) rfl) 3 (.string x) rfl)
  have BK6' := Aside0.mk (blk_far (blk_far (blk_far (blk_far BK67.out (p := ⟨b7, 0, none⟩) NE.out (.int .i64 a)) (p := ⟨b7, 1, none⟩) NE.out (.int .i64 b)) (p := ⟨b7, 2, none⟩) NE.out (.int .i64 n)) (p := ⟨b7, 3, none⟩) NE.out (.string x))
  have HB' := Aside0.mk (below_set (j := 3) (v := .string x) (below_set (j := 2) (v := .int .i64 n) (below_set (j := 1) (v := .int .i64 b) (below_set (j := 0) (v := .int .i64 a) HB7.out GE7.out) GE7.out) GE7.out) GE7.out)
  generalize (((w4.setCell ⟨b7, 0, none⟩ (.int .i64 a)).setCell ⟨b7, 1, none⟩ (.int .i64 b)).setCell ⟨b7, 2, none⟩ (.int .i64 n)).setCell ⟨b7, 3, none⟩ (.string x) = w5 at BK7' BK6' HB' ⊢
  clear BK7 BK67 HB7
  have hg5 := blk_below HG.out HB'.out
  have k1 := (blk_cell hg5 1).trans (show _ = some (Value.int .i64 (i : Int)) from rfl)
  have kf1 := blk_frozen hg5 1
  have t0 := (blk_cell BK7'.out 0).trans (show _ = some (Value.int .i64 a) from rfl)
  have t1 := (blk_cell BK7'.out 1).trans (show _ = some (Value.int .i64 b) from rfl)
  have t2 := (blk_cell BK7'.out 2).trans (show _ = some (Value.int .i64 n) from rfl)
  have t3 := (blk_cell BK7'.out 3).trans (show _ = some (Value.string x) from rfl)
  go_wp2
  exact ⟨rfl, rfl, HB'.out⟩


set_option maxHeartbeats 8000000 in
set_option maxRecDepth 100000 in
theorem take_okE (g : Nat) (A : Option Addr) (c : Nat) (ts : List S77) (i : Nat) (en kind : Int) (w : World) (hg : RdAt w g A c ts.length i en) (hr : Kd.C k77 w A ts.length ts) (hi : i < ts.length) (a b n : Int) (x : ByteArray) (ht : rd_T77 ts (i : Int) = ⟨a, b, n, x⟩) (hk : (a != kind) = false) :
    Calls Tryd.prog 34 #[.pointer (some ⟨g, 0, none⟩), .int .i64 kind, .string (⟨#[]⟩ : ByteArray)] w fun e' w' => e' = .returned (.agg #[.int .i64 a, .int .i64 b, .int .i64 n, .string x]) ∧ RdAt w' g A c ts.length ((i + 1 : Nat) : Int) en ∧ w.grownBy w' (some g) := by
  have hi2 : ((i : Int) == (ts.length : Int)) = false := by rw [beq_eq_false_iff_ne]; omega
  have hi3 : (i == ts.length) = false := by rw [beq_eq_false_iff_ne]; omega
  have p1 := eq_true (show (0 : Int) ≤ (i : Int) by omega)
  have q1 := eq_true (show (i : Int) < (ts.length : Int) by omega)
  have q2 := eq_true (show i < ts.length by omega)
  have hmx := Kd.C_max hr
  obtain ⟨ad, e0, hx0, hx1, hx2, hx3⟩ := at_T77 hr (i : Int) (by omega) (by omega)
  cases e0
  clear hr
  rw [ht] at hx0 hx1 hx2 hx3
  simp only [Int.toNat_natCast] at hx0 hx1 hx2 hx3
  have hwr : wrap64 ((i : Int) + 1) = ((i + 1 : Nat) : Int) := by unfold wrap64; omega
  have hlt := blk_lt hg
  have HG := Aside0.mk hg
  clear hg
  go_enter Tryd.func34, Tryd.ntmps34
  go_upto_region 1 with (first | ((with_reducible refine gate_dst (N := 6) rfl ?_); (try (refine gate_guard (by rfl) ?_; dsimp only)); refine box_event ?hg (N := 6) ?hd (cs := #[.int .i64 0, .int .i64 0, .int .i64 0, .string (⟨#[]⟩ : ByteArray)]) (t := 77) ?hr ?_; (case hd => rfl); (case hg => rfl); (case hr => first | (go_simp; done) | (go_simp; rfl)); intro b6 hg6 w1 hbox hb; have BK6 := Aside0.mk hbox; have HB := Aside0.mk hb; have GE6 := Aside0.mk (Nat.le_of_eq hg6.symm); clear hbox hb hg6))
  have hc0 := (blk_cell (blk_below HG.out HB.out) 0).trans (show _ = some (Value.slice _ ts.length c) from rfl)
  have hc1 := (blk_cell (blk_below HG.out HB.out) 1).trans (show _ = some (Value.int .i64 _) from rfl)
  have hc2 := (blk_cell (blk_below HG.out HB.out) 2).trans (show _ = some (Value.int .i64 en) from rfl)
  replace hx0 := (HB.out.cell (World.block_lt_of_cell? w _ hx0)).trans hx0
  replace hx1 := (HB.out.cell (World.block_lt_of_cell? w _ hx1)).trans hx1
  replace hx2 := (HB.out.cell (World.block_lt_of_cell? w _ hx2)).trans hx2
  replace hx3 := (HB.out.cell (World.block_lt_of_cell? w _ hx3)).trans hx3
  go_quiet (fail)
  go_upto_region 3 with (fail)
  obtain ⟨w3, hw3⟩ : ∃ w3, (w1.drewN nq).drew = w3 := ⟨_, rfl⟩
  have HB3 := Aside0.mk (show Below w.heap.size w w3 by rw [← hw3]; exact below_drew1 (pw_below_drewN HB.out _))
  have BK63 := Aside0.mk (show w3.heap[b6]? = some (.cells #[.int .i64 0, .int .i64 0, .int .i64 0, .string (⟨#[]⟩ : ByteArray)] 77 (0, 0)) by rw [← hw3]; exact blk_drew (blk_drewN BK6.out _))
  refine start_ (n := 12) (S := fun w' => w'.cell? ⟨g, 0, none⟩ = some (.slice (some ad) ts.length c) ∧ w'.cell? ⟨g, 1, none⟩ = some (.int .i64 (i : Int)) ∧ w'.cell? (ad.add (i * 4)) = some (.int .i64 a) ∧ w'.cell? ⟨(ad.add (i * 4)).block, (ad.add (i * 4)).off + 1, none⟩ = some (.int .i64 b) ∧ w'.cell? ⟨(ad.add (i * 4)).block, (ad.add (i * 4)).off + 2, none⟩ = some (.int .i64 n) ∧ w'.cell? ⟨(ad.add (i * 4)).block, (ad.add (i * 4)).off + 3, none⟩ = some (.string x)) (ds := [11]) #[false, false, false, false, false, false, false, false, false, false, false, false] (by kernel_rfl) rfl rfl ⟨hc0, hc1, hx0, hx1, hx2, hx3⟩ (fun hHeld => ?_)
  rw [hw3] at hHeld ⊢
  clear hw3 HB BK6 hc0 hc1 hc2 hx0 hx1 hx2 hx3
  refine pure_ (i := 0) (N := some 24) (v := ?_) (a' := ?_) #[true, false, false, false, false, false, false, false, false, false, false, false] rfl rfl (by kernel_rfl) (fun _ _ _ h => h) (Or.inl ⟨by rfl, ?_⟩) ?_ ?_
  rotate_left
  · intro w'
    go_simp
    with_reducible rfl
  rotate_left
  · simp only [Act.put, List.setIfInBounds_toArray, List.set_cons_zero, List.set_cons_succ, i64_w, i32_w]
    rfl
  refine pure_ (i := 1) (N := some 25) (v := ?_) (a' := ?_) #[true, true, false, false, false, false, false, false, false, false, false, false] rfl rfl (by kernel_rfl) (fun _ _ _ h => h) (Or.inl ⟨by rfl, ?_⟩) ?_ ?_
  rotate_left
  · intro w'
    go_simp
    with_reducible rfl
  rotate_left
  · simp only [Act.put, List.setIfInBounds_toArray, List.set_cons_zero, List.set_cons_succ, i64_w, i32_w]
    rfl
  refine pure_ (i := 2) (N := some 26) (v := ?_) (a' := ?_) #[true, true, true, false, false, false, false, false, false, false, false, false] rfl rfl (by kernel_rfl) (fun _ _ _ h => h) (Or.inl ⟨by rfl, ?_⟩) ?_ ?_
  rotate_left
  · intro w'
    go_simp
    with_reducible rfl
  rotate_left
  · simp only [Act.put, List.setIfInBounds_toArray, List.set_cons_zero, List.set_cons_succ, i64_w, i32_w]
    rfl
  refine take_ (i := 3) (N := some 27) (v := ?_) (a' := ?_) #[true, true, true, true, false, false, false, false, false, false, false, false] rfl rfl (by kernel_rfl) (fun _ _ _ h => h) (Or.inl ⟨by rfl, ?_⟩) hHeld ?_ ?_
  rotate_left
  · rintro w' ⟨s0, s1, s2, s3, s4, s5⟩
    go_simp
    with_reducible rfl
  rotate_left
  · simp only [Act.put, List.setIfInBounds_toArray, List.set_cons_zero, List.set_cons_succ, i64_w, i32_w]
    rfl
  refine pure_ (i := 4) (N := some 28) (v := ?_) (a' := ?_) #[true, true, true, true, true, false, false, false, false, false, false, false] rfl rfl (by kernel_rfl) (fun _ _ _ h => h) (Or.inl ⟨by rfl, ?_⟩) ?_ ?_
  rotate_left
  · intro w'
    go_simp
    with_reducible rfl
  rotate_left
  · simp only [Act.put, List.setIfInBounds_toArray, List.set_cons_zero, List.set_cons_succ, i64_w, i32_w]
    rfl
  refine pure_ (i := 5) (N := some 29) (v := ?_) (a' := ?_) #[true, true, true, true, true, true, false, false, false, false, false, false] rfl rfl (by kernel_rfl) (fun _ _ _ h => h) (Or.inl ⟨by rfl, ?_⟩) ?_ ?_
  rotate_left
  · intro w'
    go_simp
    with_reducible rfl
  rotate_left
  · simp only [Act.put, List.setIfInBounds_toArray, List.set_cons_zero, List.set_cons_succ, i64_w, i32_w]
    rfl
  refine pure_ (i := 6) (N := some 30) (v := ?_) (a' := ?_) #[true, true, true, true, true, true, true, false, false, false, false, false] rfl rfl (by kernel_rfl) (fun _ _ _ h => h) (Or.inl ⟨by rfl, ?_⟩) ?_ ?_
  rotate_left
  · intro w'
    go_simp
    with_reducible rfl
  rotate_left
  · simp only [Act.put, List.setIfInBounds_toArray, List.set_cons_zero, List.set_cons_succ, i64_w, i32_w]
    rfl
  refine take_ (i := 7) (N := some 31) (v := ?_) (a' := ?_) #[true, true, true, true, true, true, true, true, false, false, false, false] rfl rfl (by kernel_rfl) (fun _ _ _ h => h) (Or.inl ⟨by rfl, ?_⟩) hHeld ?_ ?_
  rotate_left
  · rintro w' ⟨s0, s1, s2, s3, s4, s5⟩
    go_simp
    with_reducible rfl
  rotate_left
  · simp only [Act.put, List.setIfInBounds_toArray, List.set_cons_zero, List.set_cons_succ, i64_w, i32_w]
    rfl
  refine pure_ (i := 8) (N := some 32) (v := ?_) (a' := ?_) #[true, true, true, true, true, true, true, true, true, false, false, false] rfl rfl (by kernel_rfl) (fun _ _ _ h => h) (Or.inl ⟨by rfl, ?_⟩) ?_ ?_
  rotate_left
  · intro w'
    go_simp
    with_reducible rfl
  rotate_left
  · simp only [Act.put, List.setIfInBounds_toArray, List.set_cons_zero, List.set_cons_succ, i64_w, i32_w]
    rfl
  refine take_ (i := 9) (N := some 33) (v := ?_) (a' := ?_) #[true, true, true, true, true, true, true, true, true, true, false, false] rfl rfl (by kernel_rfl) (fun _ _ _ h => h) (Or.inl ⟨by rfl, ?_⟩) hHeld ?_ ?_
  rotate_left
  · rintro w' ⟨s0, s1, s2, s3, s4, s5⟩
    go_simp
    with_reducible rfl
  rotate_left
  · simp only [Act.put, List.setIfInBounds_toArray, List.set_cons_zero, List.set_cons_succ, i64_w, i32_w]
    rfl
  refine one_ (i := 10) (N := some 7) #[true, true, true, true, true, true, true, true, true, true, true, false] rfl rfl (by kernel_rfl) (by decide) (fun K hK => ?_)
  refine value_ (v := .pointer (some ⟨w3.heap.size, 0, none⟩)) (w1 := w3.alloc (.cells #[.int .i64 0, .int .i64 0, .int .i64 0, .string (⟨#[]⟩ : ByteArray)] 77)) (by rfl) rfl (by first | (go_simp; done) | (go_simp; rfl)) ?_
  refine hK.out _ _ ⟨cell_alloc_ hHeld.1, cell_alloc_ hHeld.2.1, cell_alloc_ hHeld.2.2.1, cell_alloc_ hHeld.2.2.2.1, cell_alloc_ hHeld.2.2.2.2.1, cell_alloc_ hHeld.2.2.2.2.2⟩ (fun hHeld => ?_)
  clear hK K
  refine norm_ (a' := ?_) ?_ ?_
  rotate_left
  · show Act.put _ (some 7) _ = _
    simp only [Act.put, List.setIfInBounds_toArray, List.set_cons_zero, List.set_cons_succ, i64_w, i32_w]
    rfl
  have BK67 := Aside0.mk (blk_alloc BK63.out (.cells #[.int .i64 0, .int .i64 0, .int .i64 0, .string (⟨#[]⟩ : ByteArray)] 77))
  have BK7 := Aside0.mk (blk_new w3 (.cells #[.int .i64 0, .int .i64 0, .int .i64 0, .string (⟨#[]⟩ : ByteArray)] 77))
  have HB7 := Aside0.mk (below_alloc HB3.out (.cells #[.int .i64 0, .int .i64 0, .int .i64 0, .string (⟨#[]⟩ : ByteArray)] 77))
  have NE := Aside0.mk (Nat.ne_of_lt (blk_lt BK63.out))
  have GE7 := Aside0.mk HB3.out.size
  generalize w3.heap.size = b7 at BK7 NE GE7 ⊢
  generalize w3.alloc (.cells #[.int .i64 0, .int .i64 0, .int .i64 0, .string (⟨#[]⟩ : ByteArray)] 77) = w4 at BK67 BK7 HB7 hHeld ⊢
  clear HB3 BK63
  refine last_ (i := 11) (N := none) #[true, true, true, true, true, true, true, true, true, true, true, true] rfl rfl (by kernel_rfl) (by decide) (fun K hK => ?_)
  have z0 := (blk_cell BK7.out 0).trans (show _ = some (Value.int .i64 0) from rfl)
  have z1 := (blk_cell BK7.out 1).trans (show _ = some (Value.int .i64 0) from rfl)
  have z2 := (blk_cell BK7.out 2).trans (show _ = some (Value.int .i64 0) from rfl)
  have z3 := (blk_cell BK7.out 3).trans (show _ = some (Value.string (⟨#[]⟩ : ByteArray)) from rfl)
  have f0 := blk_frozen BK7.out 0
  have f1 := blk_frozen BK7.out 1
  have f2 := blk_frozen BK7.out 2
  have f3 := blk_frozen BK7.out 3
  refine skip_ (w1 := (((w4.setCell ⟨b7, 0, none⟩ (.int .i64 a)).setCell ⟨b7, 1, none⟩ (.int .i64 b)).setCell ⟨b7, 2, none⟩ (.int .i64 n)).setCell ⟨b7, 3, none⟩ (.string x)) (by rfl) rfl (by first | (go_simp; done) | (go_simp; rfl)) ?_
  refine hK.out _ _ ?_
  clear hK K z0 z1 z2 z3 f0 f1 f2 f3 hHeld
  refine done_ (by kernel_rfl) ?_
  have BK7' := Aside0.mk (blk_put (blk_put (blk_put (blk_put BK7.out 0 (.int .i64 a) rfl) 1 (.int .i64 b) rfl) 2 (.int .i64 n) rfl) 3 (.string x) rfl)
  have BK6' := Aside0.mk (blk_far (blk_far (blk_far (blk_far BK67.out (p := ⟨b7, 0, none⟩) NE.out (.int .i64 a)) (p := ⟨b7, 1, none⟩) NE.out (.int .i64 b)) (p := ⟨b7, 2, none⟩) NE.out (.int .i64 n)) (p := ⟨b7, 3, none⟩) NE.out (.string x))
  have HB' := Aside0.mk (below_set (j := 3) (v := .string x) (below_set (j := 2) (v := .int .i64 n) (below_set (j := 1) (v := .int .i64 b) (below_set (j := 0) (v := .int .i64 a) HB7.out GE7.out) GE7.out) GE7.out) GE7.out)
  generalize (((w4.setCell ⟨b7, 0, none⟩ (.int .i64 a)).setCell ⟨b7, 1, none⟩ (.int .i64 b)).setCell ⟨b7, 2, none⟩ (.int .i64 n)).setCell ⟨b7, 3, none⟩ (.string x) = w5 at BK7' BK6' HB' ⊢
  clear BK7 BK67 HB7
  have hg5 := blk_below HG.out HB'.out
  have k1 := (blk_cell hg5 1).trans (show _ = some (Value.int .i64 (i : Int)) from rfl)
  have kf1 := blk_frozen hg5 1
  have t0 := (blk_cell BK7'.out 0).trans (show _ = some (Value.int .i64 a) from rfl)
  have t1 := (blk_cell BK7'.out 1).trans (show _ = some (Value.int .i64 b) from rfl)
  have t2 := (blk_cell BK7'.out 2).trans (show _ = some (Value.int .i64 n) from rfl)
  have t3 := (blk_cell BK7'.out 3).trans (show _ = some (Value.string x) from rfl)
  have y0 := (blk_cell BK6'.out 0).trans (show _ = some (Value.int .i64 0) from rfl)
  have y1 := (blk_cell BK6'.out 1).trans (show _ = some (Value.int .i64 0) from rfl)
  have y2 := (blk_cell BK6'.out 2).trans (show _ = some (Value.int .i64 0) from rfl)
  have y3 := (blk_cell BK6'.out 3).trans (show _ = some (Value.string (⟨#[]⟩ : ByteArray)) from rfl)
  have v0 := blk_frozen BK6'.out 0
  have v1 := blk_frozen BK6'.out 1
  have v2 := blk_frozen BK6'.out 2
  have v3 := blk_frozen BK6'.out 3
  have ne1 : g ≠ b6 := by have := GE6.out; omega
  have ne2 : g ≠ b7 := by have := GE7.out; omega
  have ne3 : b6 ≠ g := fun e => ne1 e.symm
  have ne4 : b7 ≠ g := fun e => ne2 e.symm
  have ne5 := NE.out
  have ne6 : b7 ≠ b6 := fun e => ne5 e.symm
  go_wp2
  have r0 := blk_far BK6'.out (p := ⟨g, 1, none⟩) ne3 (.int .i64 ((i : Int) + 1))
  have r4 := blk_put (blk_put (blk_put (blk_put r0 0 (.int .i64 a) rfl) 1 (.int .i64 b) rfl) 2 (.int .i64 n) rfl) 3 (.string x) rfl
  refine bodyPost_ret (results_cell_row rfl _ _ b6 77 #[.int .i64 a, .int .i64 b, .int .i64 n, .string x] (0, 0) _ rfl r4 Tryd.underlying77 rfl (by kernel_rfl)) rfl ⟨rfl, ?_, ?_⟩
  · exact blk_far (blk_far (blk_far (blk_far (blk_put hg5 1 (.int .i64 ((i : Int) + 1)) rfl) ne1 _) ne1 _) ne1 _) ne1 _
  · exact grown_far (grown_far (grown_far (grown_far (grown_set (grown_of_below HB'.out (some g)) 1 _) GE6.out _) GE6.out _) GE6.out _) GE6.out _


set_option maxHeartbeats 8000000 in
set_option maxRecDepth 100000 in
theorem take_okT (g : Nat) (A : Option Addr) (c : Nat) (ts : List S77) (i : Nat) (en kind : Int) (tx : ByteArray) (w : World) (hg : RdAt w g A c ts.length i en) (hr : Kd.C k77 w A ts.length ts) (hi : i < ts.length) (a b n : Int) (x : ByteArray) (ht : rd_T77 ts (i : Int) = ⟨a, b, n, x⟩) (hk : (a != kind) = false) (hq : (tx.toList == []) = false) (hx : (x.toList == tx.toList) = true) :
    Calls Tryd.prog 34 #[.pointer (some ⟨g, 0, none⟩), .int .i64 kind, .string tx] w fun e' w' => e' = .returned (.agg #[.int .i64 a, .int .i64 b, .int .i64 n, .string x]) ∧ RdAt w' g A c ts.length ((i + 1 : Nat) : Int) en ∧ w.grownBy w' (some g) := by
  have hi2 : ((i : Int) == (ts.length : Int)) = false := by rw [beq_eq_false_iff_ne]; omega
  have hi3 : (i == ts.length) = false := by rw [beq_eq_false_iff_ne]; omega
  have p1 := eq_true (show (0 : Int) ≤ (i : Int) by omega)
  have q1 := eq_true (show (i : Int) < (ts.length : Int) by omega)
  have q2 := eq_true (show i < ts.length by omega)
  have hmx := Kd.C_max hr
  obtain ⟨ad, e0, hx0, hx1, hx2, hx3⟩ := at_T77 hr (i : Int) (by omega) (by omega)
  cases e0
  clear hr
  rw [ht] at hx0 hx1 hx2 hx3
  simp only [Int.toNat_natCast] at hx0 hx1 hx2 hx3
  have hwr : wrap64 ((i : Int) + 1) = ((i + 1 : Nat) : Int) := by unfold wrap64; omega
  have hlt := blk_lt hg
  have HG := Aside0.mk hg
  clear hg
  go_enter Tryd.func34, Tryd.ntmps34
  go_upto_region 1 with (first | ((with_reducible refine gate_dst (N := 6) rfl ?_); (try (refine gate_guard (by rfl) ?_; dsimp only)); refine box_event ?hg (N := 6) ?hd (cs := #[.int .i64 0, .int .i64 0, .int .i64 0, .string (⟨#[]⟩ : ByteArray)]) (t := 77) ?hr ?_; (case hd => rfl); (case hg => rfl); (case hr => first | (go_simp; done) | (go_simp; rfl)); intro b6 hg6 w1 hbox hb; have BK6 := Aside0.mk hbox; have HB := Aside0.mk hb; have GE6 := Aside0.mk (Nat.le_of_eq hg6.symm); clear hbox hb hg6))
  have hc0 := (blk_cell (blk_below HG.out HB.out) 0).trans (show _ = some (Value.slice _ ts.length c) from rfl)
  have hc1 := (blk_cell (blk_below HG.out HB.out) 1).trans (show _ = some (Value.int .i64 _) from rfl)
  have hc2 := (blk_cell (blk_below HG.out HB.out) 2).trans (show _ = some (Value.int .i64 en) from rfl)
  replace hx0 := (HB.out.cell (World.block_lt_of_cell? w _ hx0)).trans hx0
  replace hx1 := (HB.out.cell (World.block_lt_of_cell? w _ hx1)).trans hx1
  replace hx2 := (HB.out.cell (World.block_lt_of_cell? w _ hx2)).trans hx2
  replace hx3 := (HB.out.cell (World.block_lt_of_cell? w _ hx3)).trans hx3
  go_quiet (fail)
  go_upto_region 3 with (fail)
  obtain ⟨w3, hw3⟩ : ∃ w3, (w1.drewN nq).drew = w3 := ⟨_, rfl⟩
  have HB3 := Aside0.mk (show Below w.heap.size w w3 by rw [← hw3]; exact below_drew1 (pw_below_drewN HB.out _))
  have BK63 := Aside0.mk (show w3.heap[b6]? = some (.cells #[.int .i64 0, .int .i64 0, .int .i64 0, .string (⟨#[]⟩ : ByteArray)] 77 (0, 0)) by rw [← hw3]; exact blk_drew (blk_drewN BK6.out _))
  refine start_ (n := 12) (S := fun w' => w'.cell? ⟨g, 0, none⟩ = some (.slice (some ad) ts.length c) ∧ w'.cell? ⟨g, 1, none⟩ = some (.int .i64 (i : Int)) ∧ w'.cell? (ad.add (i * 4)) = some (.int .i64 a) ∧ w'.cell? ⟨(ad.add (i * 4)).block, (ad.add (i * 4)).off + 1, none⟩ = some (.int .i64 b) ∧ w'.cell? ⟨(ad.add (i * 4)).block, (ad.add (i * 4)).off + 2, none⟩ = some (.int .i64 n) ∧ w'.cell? ⟨(ad.add (i * 4)).block, (ad.add (i * 4)).off + 3, none⟩ = some (.string x)) (ds := [11]) #[false, false, false, false, false, false, false, false, false, false, false, false] (by kernel_rfl) rfl rfl ⟨hc0, hc1, hx0, hx1, hx2, hx3⟩ (fun hHeld => ?_)
  rw [hw3] at hHeld ⊢
  clear hw3 HB BK6 hc0 hc1 hc2 hx0 hx1 hx2 hx3
  refine pure_ (i := 0) (N := some 24) (v := ?_) (a' := ?_) #[true, false, false, false, false, false, false, false, false, false, false, false] rfl rfl (by kernel_rfl) (fun _ _ _ h => h) (Or.inl ⟨by rfl, ?_⟩) ?_ ?_
  rotate_left
  · intro w'
    go_simp
    with_reducible rfl
  rotate_left
  · simp only [Act.put, List.setIfInBounds_toArray, List.set_cons_zero, List.set_cons_succ, i64_w, i32_w]
    rfl
  refine pure_ (i := 1) (N := some 25) (v := ?_) (a' := ?_) #[true, true, false, false, false, false, false, false, false, false, false, false] rfl rfl (by kernel_rfl) (fun _ _ _ h => h) (Or.inl ⟨by rfl, ?_⟩) ?_ ?_
  rotate_left
  · intro w'
    go_simp
    with_reducible rfl
  rotate_left
  · simp only [Act.put, List.setIfInBounds_toArray, List.set_cons_zero, List.set_cons_succ, i64_w, i32_w]
    rfl
  refine pure_ (i := 2) (N := some 26) (v := ?_) (a' := ?_) #[true, true, true, false, false, false, false, false, false, false, false, false] rfl rfl (by kernel_rfl) (fun _ _ _ h => h) (Or.inl ⟨by rfl, ?_⟩) ?_ ?_
  rotate_left
  · intro w'
    go_simp
    with_reducible rfl
  rotate_left
  · simp only [Act.put, List.setIfInBounds_toArray, List.set_cons_zero, List.set_cons_succ, i64_w, i32_w]
    rfl
  refine take_ (i := 3) (N := some 27) (v := ?_) (a' := ?_) #[true, true, true, true, false, false, false, false, false, false, false, false] rfl rfl (by kernel_rfl) (fun _ _ _ h => h) (Or.inl ⟨by rfl, ?_⟩) hHeld ?_ ?_
  rotate_left
  · rintro w' ⟨s0, s1, s2, s3, s4, s5⟩
    go_simp
    with_reducible rfl
  rotate_left
  · simp only [Act.put, List.setIfInBounds_toArray, List.set_cons_zero, List.set_cons_succ, i64_w, i32_w]
    rfl
  refine pure_ (i := 4) (N := some 28) (v := ?_) (a' := ?_) #[true, true, true, true, true, false, false, false, false, false, false, false] rfl rfl (by kernel_rfl) (fun _ _ _ h => h) (Or.inl ⟨by rfl, ?_⟩) ?_ ?_
  rotate_left
  · intro w'
    go_simp
    with_reducible rfl
  rotate_left
  · simp only [Act.put, List.setIfInBounds_toArray, List.set_cons_zero, List.set_cons_succ, i64_w, i32_w]
    rfl
  refine pure_ (i := 5) (N := some 29) (v := ?_) (a' := ?_) #[true, true, true, true, true, true, false, false, false, false, false, false] rfl rfl (by kernel_rfl) (fun _ _ _ h => h) (Or.inl ⟨by rfl, ?_⟩) ?_ ?_
  rotate_left
  · intro w'
    go_simp
    with_reducible rfl
  rotate_left
  · simp only [Act.put, List.setIfInBounds_toArray, List.set_cons_zero, List.set_cons_succ, i64_w, i32_w]
    rfl
  refine pure_ (i := 6) (N := some 30) (v := ?_) (a' := ?_) #[true, true, true, true, true, true, true, false, false, false, false, false] rfl rfl (by kernel_rfl) (fun _ _ _ h => h) (Or.inl ⟨by rfl, ?_⟩) ?_ ?_
  rotate_left
  · intro w'
    go_simp
    with_reducible rfl
  rotate_left
  · simp only [Act.put, List.setIfInBounds_toArray, List.set_cons_zero, List.set_cons_succ, i64_w, i32_w]
    rfl
  refine take_ (i := 7) (N := some 31) (v := ?_) (a' := ?_) #[true, true, true, true, true, true, true, true, false, false, false, false] rfl rfl (by kernel_rfl) (fun _ _ _ h => h) (Or.inl ⟨by rfl, ?_⟩) hHeld ?_ ?_
  rotate_left
  · rintro w' ⟨s0, s1, s2, s3, s4, s5⟩
    go_simp
    with_reducible rfl
  rotate_left
  · simp only [Act.put, List.setIfInBounds_toArray, List.set_cons_zero, List.set_cons_succ, i64_w, i32_w]
    rfl
  refine pure_ (i := 8) (N := some 32) (v := ?_) (a' := ?_) #[true, true, true, true, true, true, true, true, true, false, false, false] rfl rfl (by kernel_rfl) (fun _ _ _ h => h) (Or.inl ⟨by rfl, ?_⟩) ?_ ?_
  rotate_left
  · intro w'
    go_simp
    with_reducible rfl
  rotate_left
  · simp only [Act.put, List.setIfInBounds_toArray, List.set_cons_zero, List.set_cons_succ, i64_w, i32_w]
    rfl
  refine take_ (i := 9) (N := some 33) (v := ?_) (a' := ?_) #[true, true, true, true, true, true, true, true, true, true, false, false] rfl rfl (by kernel_rfl) (fun _ _ _ h => h) (Or.inl ⟨by rfl, ?_⟩) hHeld ?_ ?_
  rotate_left
  · rintro w' ⟨s0, s1, s2, s3, s4, s5⟩
    go_simp
    with_reducible rfl
  rotate_left
  · simp only [Act.put, List.setIfInBounds_toArray, List.set_cons_zero, List.set_cons_succ, i64_w, i32_w]
    rfl
  refine one_ (i := 10) (N := some 7) #[true, true, true, true, true, true, true, true, true, true, true, false] rfl rfl (by kernel_rfl) (by decide) (fun K hK => ?_)
  refine value_ (v := .pointer (some ⟨w3.heap.size, 0, none⟩)) (w1 := w3.alloc (.cells #[.int .i64 0, .int .i64 0, .int .i64 0, .string (⟨#[]⟩ : ByteArray)] 77)) (by rfl) rfl (by first | (go_simp; done) | (go_simp; rfl)) ?_
  refine hK.out _ _ ⟨cell_alloc_ hHeld.1, cell_alloc_ hHeld.2.1, cell_alloc_ hHeld.2.2.1, cell_alloc_ hHeld.2.2.2.1, cell_alloc_ hHeld.2.2.2.2.1, cell_alloc_ hHeld.2.2.2.2.2⟩ (fun hHeld => ?_)
  clear hK K
  refine norm_ (a' := ?_) ?_ ?_
  rotate_left
  · show Act.put _ (some 7) _ = _
    simp only [Act.put, List.setIfInBounds_toArray, List.set_cons_zero, List.set_cons_succ, i64_w, i32_w]
    rfl
  have BK67 := Aside0.mk (blk_alloc BK63.out (.cells #[.int .i64 0, .int .i64 0, .int .i64 0, .string (⟨#[]⟩ : ByteArray)] 77))
  have BK7 := Aside0.mk (blk_new w3 (.cells #[.int .i64 0, .int .i64 0, .int .i64 0, .string (⟨#[]⟩ : ByteArray)] 77))
  have HB7 := Aside0.mk (below_alloc HB3.out (.cells #[.int .i64 0, .int .i64 0, .int .i64 0, .string (⟨#[]⟩ : ByteArray)] 77))
  have NE := Aside0.mk (Nat.ne_of_lt (blk_lt BK63.out))
  have GE7 := Aside0.mk HB3.out.size
  generalize w3.heap.size = b7 at BK7 NE GE7 ⊢
  generalize w3.alloc (.cells #[.int .i64 0, .int .i64 0, .int .i64 0, .string (⟨#[]⟩ : ByteArray)] 77) = w4 at BK67 BK7 HB7 hHeld ⊢
  clear HB3 BK63
  refine last_ (i := 11) (N := none) #[true, true, true, true, true, true, true, true, true, true, true, true] rfl rfl (by kernel_rfl) (by decide) (fun K hK => ?_)
  have z0 := (blk_cell BK7.out 0).trans (show _ = some (Value.int .i64 0) from rfl)
  have z1 := (blk_cell BK7.out 1).trans (show _ = some (Value.int .i64 0) from rfl)
  have z2 := (blk_cell BK7.out 2).trans (show _ = some (Value.int .i64 0) from rfl)
  have z3 := (blk_cell BK7.out 3).trans (show _ = some (Value.string (⟨#[]⟩ : ByteArray)) from rfl)
  have f0 := blk_frozen BK7.out 0
  have f1 := blk_frozen BK7.out 1
  have f2 := blk_frozen BK7.out 2
  have f3 := blk_frozen BK7.out 3
  refine skip_ (w1 := (((w4.setCell ⟨b7, 0, none⟩ (.int .i64 a)).setCell ⟨b7, 1, none⟩ (.int .i64 b)).setCell ⟨b7, 2, none⟩ (.int .i64 n)).setCell ⟨b7, 3, none⟩ (.string x)) (by rfl) rfl (by first | (go_simp; done) | (go_simp; rfl)) ?_
  refine hK.out _ _ ?_
  clear hK K z0 z1 z2 z3 f0 f1 f2 f3 hHeld
  refine done_ (by kernel_rfl) ?_
  have BK7' := Aside0.mk (blk_put (blk_put (blk_put (blk_put BK7.out 0 (.int .i64 a) rfl) 1 (.int .i64 b) rfl) 2 (.int .i64 n) rfl) 3 (.string x) rfl)
  have BK6' := Aside0.mk (blk_far (blk_far (blk_far (blk_far BK67.out (p := ⟨b7, 0, none⟩) NE.out (.int .i64 a)) (p := ⟨b7, 1, none⟩) NE.out (.int .i64 b)) (p := ⟨b7, 2, none⟩) NE.out (.int .i64 n)) (p := ⟨b7, 3, none⟩) NE.out (.string x))
  have HB' := Aside0.mk (below_set (j := 3) (v := .string x) (below_set (j := 2) (v := .int .i64 n) (below_set (j := 1) (v := .int .i64 b) (below_set (j := 0) (v := .int .i64 a) HB7.out GE7.out) GE7.out) GE7.out) GE7.out)
  generalize (((w4.setCell ⟨b7, 0, none⟩ (.int .i64 a)).setCell ⟨b7, 1, none⟩ (.int .i64 b)).setCell ⟨b7, 2, none⟩ (.int .i64 n)).setCell ⟨b7, 3, none⟩ (.string x) = w5 at BK7' BK6' HB' ⊢
  clear BK7 BK67 HB7
  have hg5 := blk_below HG.out HB'.out
  have k1 := (blk_cell hg5 1).trans (show _ = some (Value.int .i64 (i : Int)) from rfl)
  have kf1 := blk_frozen hg5 1
  have t0 := (blk_cell BK7'.out 0).trans (show _ = some (Value.int .i64 a) from rfl)
  have t1 := (blk_cell BK7'.out 1).trans (show _ = some (Value.int .i64 b) from rfl)
  have t2 := (blk_cell BK7'.out 2).trans (show _ = some (Value.int .i64 n) from rfl)
  have t3 := (blk_cell BK7'.out 3).trans (show _ = some (Value.string x) from rfl)
  have y0 := (blk_cell BK6'.out 0).trans (show _ = some (Value.int .i64 0) from rfl)
  have y1 := (blk_cell BK6'.out 1).trans (show _ = some (Value.int .i64 0) from rfl)
  have y2 := (blk_cell BK6'.out 2).trans (show _ = some (Value.int .i64 0) from rfl)
  have y3 := (blk_cell BK6'.out 3).trans (show _ = some (Value.string (⟨#[]⟩ : ByteArray)) from rfl)
  have v0 := blk_frozen BK6'.out 0
  have v1 := blk_frozen BK6'.out 1
  have v2 := blk_frozen BK6'.out 2
  have v3 := blk_frozen BK6'.out 3
  have ne1 : g ≠ b6 := by have := GE6.out; omega
  have ne2 : g ≠ b7 := by have := GE7.out; omega
  have ne3 : b6 ≠ g := fun e => ne1 e.symm
  have ne4 : b7 ≠ g := fun e => ne2 e.symm
  have ne5 := NE.out
  have ne6 : b7 ≠ b6 := fun e => ne5 e.symm
  go_wp2
  have r0 := blk_far BK6'.out (p := ⟨g, 1, none⟩) ne3 (.int .i64 ((i : Int) + 1))
  have r4 := blk_put (blk_put (blk_put (blk_put r0 0 (.int .i64 a) rfl) 1 (.int .i64 b) rfl) 2 (.int .i64 n) rfl) 3 (.string x) rfl
  refine bodyPost_ret (results_cell_row rfl _ _ b6 77 #[.int .i64 a, .int .i64 b, .int .i64 n, .string x] (0, 0) _ rfl r4 Tryd.underlying77 rfl (by kernel_rfl)) rfl ⟨rfl, ?_, ?_⟩
  · exact blk_far (blk_far (blk_far (blk_far (blk_put hg5 1 (.int .i64 ((i : Int) + 1)) rfl) ne1 _) ne1 _) ne1 _) ne1 _
  · exact grown_far (grown_far (grown_far (grown_far (grown_set (grown_of_below HB'.out (some g)) 1 _) GE6.out _) GE6.out _) GE6.out _) GE6.out _

end Go.Proofs.YtgddmfphlhlcjaaDoor.FcW
