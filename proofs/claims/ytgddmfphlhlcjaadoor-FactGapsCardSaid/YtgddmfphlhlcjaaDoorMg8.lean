/- The reader's take and span, by the plain reader. -/
import Derived.Test.YtgddmfphlhlcjaaDoorMg2
import Derived.Test.YtgddmfphlhlcjaaDoorMg7
namespace Go.Proofs.YtgddmfphlhlcjaaDoor.FcW
open Go.RowKit Go.Proofs.YtgddmfphlhlcjaaDoorW.PrintWords Go.Proofs.YtgddmfphlhlcjaaDoorW.PrintLast Go.Proofs.YtgddmfphlhlcjaaDoorW.PrintMore
open Go.Proofs.YtgddmfphlhlcjaaDoor Go.Proofs.YtgddmfphlhlcjaaDoor.PF Go.Proofs.YtgddmfphlhlcjaaDoor.LxP Go.Proofs.YtgddmfphlhlcjaaDoor.LxW Go.Proofs.YtgddmfphlhlcjaaDoor.FcP
set_option linter.unusedVariables false
set_option linter.unusedSimpArgs false

theorem bs_toList (x : List UInt8) : (bs x).toList = x := by rw [ByteArray.toList_eq]; exact byts_bs x
theorem drop_at {T : Ts} {i : Nat} {t : Nat × Tk} {r : Ts} (h : T.drop i = t :: r) : i < T.length ∧ r = T.drop (i + 1) ∧ rd_T77 (T.map toS) (i : Int) = toS t := by
  have hi : i < T.length := by
    by_cases hi : i < T.length
    · exact hi
    · rw [List.drop_of_length_le (by omega)] at h; cases h
  rw [List.drop_eq_getElem_cons hi] at h
  injection h with h1 h2
  refine ⟨hi, h2.symm, ?_⟩
  unfold rd_T77
  rw [Int.toNat_natCast, List.getD_eq_getElem?_getD, List.getElem?_map, List.getElem?_eq_getElem hi, h1]
  rfl
/-- A token's four cells. -/
def tokC (t : Nat × Tk) : Array Value := #[.int .i64 (t.2.kind : Int), .int .i64 (t.1 : Int), .int .i64 (t.2.n : Int), .string (bs t.2.text)]

theorem take_good {T : Ts} {i : Nat} {k : Nat} {x : List UInt8} {en : Nat} {t : Nat × Tk} {r : Ts} (h : take k x en (T.drop i) = .ok (t, r)) (g : Nat) (A : Option Addr) (c : Nat) (w : World) (hg : RdAt w g A c (T.map toS).length (i : Int) en) (hr : Kd.C k77 w A (T.map toS).length (T.map toS)) (tx : ByteArray) (htx : tx = bs x) (kd : Int) (hkd : kd = k) :
    r = T.drop (i + 1) ∧ i < T.length ∧ Calls Tryd.prog 34 #[.pointer (some ⟨g, 0, none⟩), .int .i64 kd, .string tx] w fun e' w' => e' = .returned (.agg (tokC t)) ∧ RdAt w' g A c (T.map toS).length ((i + 1 : Nat) : Int) en ∧ w.grownBy w' (some g) := by
  subst htx hkd
  cases hd : T.drop i with
  | nil => rw [hd] at h; cases h
  | cons t' r' =>
    rw [hd] at h
    obtain ⟨h1, h2, h3⟩ := drop_at hd
    simp only [take] at h
    by_cases hc : t'.2.kind ≠ k ∨ (x ≠ [] ∧ t'.2.text ≠ x)
    · rw [if_pos hc] at h; cases h
    · rw [if_neg hc] at h
      injection h with h
      injection h with e1 e2
      subst e1 e2
      refine ⟨h2, h1, ?_⟩
      have hk : ((t'.2.kind : Int) != (k : Int)) = false := by
        rw [bne_eq_false_iff_eq]
        by_cases e : t'.2.kind = k
        · rw [e]
        · exact absurd (Or.inl e) hc
      by_cases hx : x = []
      · subst hx
        exact take_okE g A c _ i en k w hg hr (by rw [List.length_map]; exact h1) _ _ _ _ h3 hk
      · refine take_okT g A c _ i en k (bs x) w hg hr (by rw [List.length_map]; exact h1) _ _ _ _ h3 hk (by rw [bs_toList]; simpa using hx) ?_
        rw [bs_toList, bs_toList]
        by_cases e : t'.2.text = x
        · rw [e]; simp
        · exact absurd (Or.inr ⟨hx, e⟩) hc
theorem take_fail {T : Ts} {i : Nat} {k : Nat} {x : List UInt8} {en : Nat} {e a : Nat} (h : take k x en (T.drop i) = .error (e, a)) (hi : i ≤ T.length) (g : Nat) (A : Option Addr) (c : Nat) (w : World) (hg : RdAt w g A c (T.map toS).length (i : Int) en) (hr : Kd.C k77 w A (T.map toS).length (T.map toS)) (tx : ByteArray) (htx : tx = bs x) (kd : Int) (hkd : kd = k) :
    Calls Tryd.prog 34 #[.pointer (some ⟨g, 0, none⟩), .int .i64 kd, .string tx] w fun e' w' => e' = .panicked [{ v := .iface 93 (.agg #[.int .i64 e, .int .i64 a]), recovered := false }] ∧ Below w.heap.size w w' := by
  subst htx hkd
  cases hd : T.drop i with
  | nil =>
    rw [hd] at h
    injection h with h
    injection h with e1 e2
    subst e1 e2
    have hl : i = (T.map toS).length := by
      have := congrArg List.length hd
      rw [List.length_drop] at this
      simp at this
      rw [List.length_map]
      omega
    rw [hl] at hg
    exact take_end g A c (T.map toS) i en k (bs x) w hg
  | cons t' r' =>
    rw [hd] at h
    obtain ⟨h1, h2, h3⟩ := drop_at hd
    simp only [take] at h
    by_cases hc : t'.2.kind ≠ k ∨ (x ≠ [] ∧ t'.2.text ≠ x)
    · rw [if_pos hc] at h
      injection h with h
      injection h with e1 e2
      subst e1 e2
      by_cases hk : t'.2.kind = k
      · rcases hc with hc | ⟨hc1, hc2⟩
        · exact absurd hk hc
        · exact take_badT g A c _ i en k (bs x) w hg hr (by rw [List.length_map]; exact h1) _ _ _ _ h3 (by rw [hk]; simp) (by rw [bs_toList]; simpa using hc1) (by rw [bs_toList, bs_toList]; simpa using hc2)
      · exact take_badK g A c _ i en k (bs x) w hg hr (by rw [List.length_map]; exact h1) _ _ _ _ h3 (by rw [bne_iff_ne]; omega)
    · rw [if_neg hc] at h; cases h
theorem check_ok' (t : Nat × Tk) (e : Int) (w : World) : Calls Tryd.prog 35 #[.bool false, .int .i64 e, .agg #[.int .i64 (t.2.kind : Int), .int .i64 (t.1 : Int), .int .i64 (t.2.n : Int), .string (bs t.2.text)]] w fun e' w' => e' = .returned (.tuple #[]) ∧ Below w.heap.size w w' := check_ok _ _ _ _ _ _
theorem check_bad' (t : Nat × Tk) (e : Int) (w : World) : Calls Tryd.prog 35 #[.bool true, .int .i64 e, .agg #[.int .i64 (t.2.kind : Int), .int .i64 (t.1 : Int), .int .i64 (t.2.n : Int), .string (bs t.2.text)]] w fun e' w' => e' = .panicked [{ v := .iface 93 (.agg #[.int .i64 e, .int .i64 t.1]), recovered := false }] ∧ Below w.heap.size w w' := check_bad _ _ _ _ _ _
theorem rd_grown {w w' : World} {g g' : Nat} {A : Option Addr} {c n : Nat} {i en : Int} (h : RdAt w g A c n i en) (hg : w.grownBy w' (some g')) (hne : g ≠ g') : RdAt w' g A c n i en := blk_grown h hg (fun e => hne (Option.some.inj e))
theorem rd_below {w w' : World} {g : Nat} {A : Option Addr} {c n : Nat} {i en : Int} (h : RdAt w g A c n i en) (hb : Below w.heap.size w w') : RdAt w' g A c n i en := blk_below h hb
/-- The reader with its tokens. -/
def TkAt (w : World) (g : Nat) (A : Option Addr) (c : Nat) (ts : List S77) (i : Nat) (en base : Nat) : Prop := RdAt w g A c ts.length (i : Int) (en : Int) ∧ Kd.R k77 77 w base (fun k => k ≠ g) (.slice A ts.length c) ts
theorem TkAt.below {w w' : World} {g : Nat} {A : Option Addr} {c : Nat} {ts : List S77} {i en base : Nat} (h : TkAt w g A c ts i en base) (hb : Below w.heap.size w w') : TkAt w' g A c ts i en base := ⟨blk_below h.1 hb, Kd.R_below h.2 hb⟩
theorem take_good2 {T : Ts} {i : Nat} {k : Nat} {x : List UInt8} {en : Nat} {t : Nat × Tk} {r : Ts} (h : take k x en (T.drop i) = .ok (t, r)) {g : Nat} {A : Option Addr} {c : Nat} {w : World} {base : Nat} (hg : TkAt w g A c (T.map toS) i en base) {tx : ByteArray} (htx : tx = bs x) {kd : Int} (hkd : kd = k) :
    Calls Tryd.prog 34 #[.pointer (some ⟨g, 0, none⟩), .int .i64 kd, .string tx] w fun e' w' => e' = .returned (.agg #[.int .i64 (t.2.kind : Int), .int .i64 (t.1 : Int), .int .i64 (t.2.n : Int), .string (bs t.2.text)]) ∧ TkAt w' g A c (T.map toS) (i + 1) en base ∧ w.grownBy w' (some g) := by
  refine (take_good h g A c w hg.1 (Kd.R_reads' hg.2).2.2 tx htx kd hkd).2.2.mono ?_
  rintro e' w' ⟨rfl, h1, h2⟩
  exact ⟨rfl, ⟨h1, Kd.R_grown hg.2 h2 (fun k hk e => hk (Option.some.inj e))⟩, h2⟩
theorem take_fail2 {T : Ts} {i : Nat} {k : Nat} {x : List UInt8} {en : Nat} {e a : Nat} (h : take k x en (T.drop i) = .error (e, a)) (hi : i ≤ T.length) {g : Nat} {A : Option Addr} {c : Nat} {w : World} {base : Nat} (hg : TkAt w g A c (T.map toS) i en base) {tx : ByteArray} (htx : tx = bs x) {kd : Int} (hkd : kd = k) :
    Calls Tryd.prog 34 #[.pointer (some ⟨g, 0, none⟩), .int .i64 kd, .string tx] w fun e' w' => e' = .panicked [{ v := .iface 93 (.agg #[.int .i64 e, .int .i64 a]), recovered := false }] ∧ w.grownBy w' (some g) := by
  refine (take_fail h hi g A c w hg.1 (Kd.R_reads' hg.2).2.2 tx htx kd hkd).mono ?_
  rintro e' w' ⟨rfl, h1⟩
  exact ⟨rfl, grown_of_below h1 _⟩
theorem take_next {T : Ts} {i : Nat} {k : Nat} {x : List UInt8} {en : Nat} {t : Nat × Tk} {r : Ts} (h : take k x en (T.drop i) = .ok (t, r)) : r = T.drop (i + 1) ∧ i + 1 ≤ T.length := by
  cases hd : T.drop i with
  | nil => rw [hd] at h; cases h
  | cons t' r' =>
    rw [hd] at h
    obtain ⟨h1, h2, h3⟩ := drop_at hd
    simp only [take] at h
    by_cases hc : t'.2.kind ≠ k ∨ (x ≠ [] ∧ t'.2.text ≠ x)
    · rw [if_pos hc] at h; cases h
    · rw [if_neg hc] at h
      injection h with h
      injection h with e1 e2
      subst e1 e2
      exact ⟨h2, h1⟩

theorem grown_then {w w1 w2 : World} {row : Option Nat} (h : w.grownBy w1 row) (k : w1.grownBy w2 row) : w1.grownBy w2 row := k
theorem grown_of_below' {w w1 w2 : World} {row : Option Nat} (h : w.grownBy w1 row) (k : Below w1.heap.size w1 w2) : w1.grownBy w2 row := grown_of_below k row
/-- What span tells. -/
def SpanSays (T : Ts) (i : Nat) (g : Nat) (A : Option Addr) (c en base : Nat) (w : World) (e' : Ending) (w' : World) : Prop :=
  (match spanS en (T.drop i) with
    | .ok p => e' = .returned (.tuple #[.int .i64 p.1.1, .int .i64 p.1.2]) ∧ p.2 = T.drop (i + 3) ∧ i + 3 ≤ T.length ∧ TkAt w' g A c (T.map toS) (i + 3) en base
    | .error p => e' = .panicked [{ v := .iface 93 (.agg #[.int .i64 p.1, .int .i64 p.2]), recovered := false }]) ∧ w.grownBy w' (some g)

set_option maxHeartbeats 16000000 in
set_option maxRecDepth 100000 in
theorem span_any (T : Ts) (i : Nat) (hi : i ≤ T.length) (g : Nat) (A : Option Addr) (c en base : Nat) (w : World) (hg : TkAt w g A c (T.map toS) i en base) :
    Calls Tryd.prog 33 #[.pointer (some ⟨g, 0, none⟩)] w (SpanSays T i g A c en base w) := by
  have HG := Aside0.mk hg
  have hlt := blk_lt hg.1
  clear hg
  cases h1 : take 2 [] en (T.drop i) with
  | error p =>
    obtain ⟨e, a⟩ := p
    have hs : spanS en (T.drop i) = .error (e, a) := by
      unfold spanS; rw [h1]; rfl
    unfold SpanSays
    rw [hs]
    show Calls Tryd.prog 33 _ w fun e' w' => (e' = .panicked [{ v := .iface 93 (.agg #[.int .i64 ((e : Nat) : Int), .int .i64 ((a : Nat) : Int)]), recovered := false }]) ∧ w.grownBy w' (some g)
    have H1 := Aside0.mk h1
    clear h1 hs
    go_enter Tryd.func33, Tryd.ntmps33
    go_wp2_with (go_at_call 34; refine (take_fail2 H1.out hi HG.out rfl rfl).mono ?_; rintro e_ w1 ⟨rfl, g_⟩; have G1 := Aside0.mk g_; clear g_)
    exact ⟨rfl, rfl, G1.out⟩
  | ok p =>
    obtain ⟨t, r⟩ := p
    obtain ⟨rfl, hi1⟩ := take_next h1
    have H1 := Aside0.mk h1
    by_cases hc1 : 1000000 < t.2.n
    · skip
      have hs : spanS en (T.drop i) = .error (10, t.1) := by
        unfold spanS; rw [h1]; show (if _ then _ else _) = _; rw [if_pos hc1]
      unfold SpanSays
      rw [hs]
      show Calls Tryd.prog 33 _ w fun e' w' => (e' = .panicked [{ v := .iface 93 (.agg #[.int .i64 ((10 : Nat) : Int), .int .i64 ((t.1 : Nat) : Int)]), recovered := false }]) ∧ w.grownBy w' (some g)
      have d1 : decide ((1000000 : Int) < (t.2.n : Int)) = true := decide_eq_true (by omega)
      have d1' : decide (1000000 < t.2.n) = true := decide_eq_true hc1
      clear h1 hs
      go_enter Tryd.func33, Tryd.ntmps33
      go_upto_region 2 with (first | (go_at_call 34; refine (take_good2 H1.out HG.out rfl rfl).mono ?_; rintro e_ w1 ⟨rfl, tk_, g_⟩; have TK1 := Aside0.mk tk_; have G1 := Aside0.mk g_; clear tk_ g_) | ((with_reducible refine gate_dst (N := 4) rfl ?_); (try (refine gate_guard (by rfl) ?_; dsimp only)); refine box_event ?hg (N := 4) ?hd (cs := #[.int .i64 0, .int .i64 0, .int .i64 0, .string (⟨#[]⟩ : ByteArray)]) (t := 77) ?hr ?_; (case hd => rfl); (case hg => rfl); (case hr => first | (go_simp; done) | (go_simp; rfl)); intro b4 hg_b4 w2 hbox hb; have BK_b4 := Aside0.mk hbox; have HB_b4 := Aside0.mk hb; have GE_b4 := Aside0.mk (Nat.le_of_eq hg_b4.symm); clear hbox hb hg_b4; have zb40 := (blk_cell BK_b4.out 0).trans (show _ = some (Value.int .i64 0) from rfl); have fb40 := blk_frozen BK_b4.out 0; have zb41 := (blk_cell BK_b4.out 1).trans (show _ = some (Value.int .i64 0) from rfl); have fb41 := blk_frozen BK_b4.out 1; have zb42 := (blk_cell BK_b4.out 2).trans (show _ = some (Value.int .i64 0) from rfl); have fb42 := blk_frozen BK_b4.out 2; have zb43 := (blk_cell BK_b4.out 3).trans (show _ = some (Value.string (⟨#[]⟩ : ByteArray)) from rfl); have fb43 := blk_frozen BK_b4.out 3))
      refine at_world (F := fun w' => TkAt w' g A c (T.map toS) (i + 1) en base ∧ w'.heap[b4]? = some (.cells (tokC t) 77 (0, 0)) ∧ w.grownBy w' (some g)) ⟨TK1.out.below (below_set (below_set (below_set (below_set HB_b4.out GE_b4.out) GE_b4.out) GE_b4.out) GE_b4.out), (blk_put (blk_put (blk_put (blk_put BK_b4.out 0 _ rfl) 1 _ rfl) 2 _ rfl) 3 _ rfl), G1.out.trans (grown_of_below (below_set (below_set (below_set (below_set HB_b4.out GE_b4.out) GE_b4.out) GE_b4.out) GE_b4.out) _)⟩ ?_
      have LB4 := Aside0.mk (Nat.le_trans G1.out.size GE_b4.out)
      clear TK1 G1 BK_b4 HB_b4 GE_b4 zb40 fb40 zb41 fb41 zb42 fb42 zb43 fb43
      rintro w3 ⟨tk3, bk3, gr3⟩
      have TK3 := Aside0.mk tk3
      have BK3 := Aside0.mk bk3
      have GR3 := Aside0.mk gr3
      clear tk3 bk3 gr3
      have k0 := (blk_cell BK3.out 0).trans (show _ = some (Value.int .i64 (t.2.kind : Int)) from rfl)
      have k1 := (blk_cell BK3.out 1).trans (show _ = some (Value.int .i64 (t.1 : Int)) from rfl)
      have k2 := (blk_cell BK3.out 2).trans (show _ = some (Value.int .i64 (t.2.n : Int)) from rfl)
      have k3 := (blk_cell BK3.out 3).trans (show _ = some (Value.string (bs t.2.text)) from rfl)
      go_wp2_with (go_at_call 35; refine (check_bad' t _ _).mono ?_; rintro e_ w4 ⟨rfl, b_⟩; have B4 := Aside0.mk b_; clear b_)
      exact ⟨rfl, rfl, GR3.out.trans (grown_of_below' GR3.out B4.out)⟩
    · cases h2 : take 1 toW en (T.drop (i + 1)) with
      | error p =>
        obtain ⟨e, a⟩ := p
        have hs : spanS en (T.drop i) = .error (e, a) := by
          unfold spanS; rw [h1]; show (if _ then _ else _) = _; rw [if_neg hc1]; show (take 1 toW en (T.drop (i + 1))).bind _ = _; rw [h2]; rfl
        unfold SpanSays
        rw [hs]
        show Calls Tryd.prog 33 _ w fun e' w' => (e' = .panicked [{ v := .iface 93 (.agg #[.int .i64 ((e : Nat) : Int), .int .i64 ((a : Nat) : Int)]), recovered := false }]) ∧ w.grownBy w' (some g)
        have H2 := Aside0.mk h2
        clear h1 h2 hs
        go_enter Tryd.func33, Tryd.ntmps33
        go_upto_region 2 with (first | (go_at_call 34; refine (take_good2 H1.out HG.out rfl rfl).mono ?_; rintro e_ w1 ⟨rfl, tk_, g_⟩; have TK1 := Aside0.mk tk_; have G1 := Aside0.mk g_; clear tk_ g_) | ((with_reducible refine gate_dst (N := 4) rfl ?_); (try (refine gate_guard (by rfl) ?_; dsimp only)); refine box_event ?hg (N := 4) ?hd (cs := #[.int .i64 0, .int .i64 0, .int .i64 0, .string (⟨#[]⟩ : ByteArray)]) (t := 77) ?hr ?_; (case hd => rfl); (case hg => rfl); (case hr => first | (go_simp; done) | (go_simp; rfl)); intro b4 hg_b4 w2 hbox hb; have BK_b4 := Aside0.mk hbox; have HB_b4 := Aside0.mk hb; have GE_b4 := Aside0.mk (Nat.le_of_eq hg_b4.symm); clear hbox hb hg_b4; have zb40 := (blk_cell BK_b4.out 0).trans (show _ = some (Value.int .i64 0) from rfl); have fb40 := blk_frozen BK_b4.out 0; have zb41 := (blk_cell BK_b4.out 1).trans (show _ = some (Value.int .i64 0) from rfl); have fb41 := blk_frozen BK_b4.out 1; have zb42 := (blk_cell BK_b4.out 2).trans (show _ = some (Value.int .i64 0) from rfl); have fb42 := blk_frozen BK_b4.out 2; have zb43 := (blk_cell BK_b4.out 3).trans (show _ = some (Value.string (⟨#[]⟩ : ByteArray)) from rfl); have fb43 := blk_frozen BK_b4.out 3))
        refine at_world (F := fun w' => TkAt w' g A c (T.map toS) (i + 1) en base ∧ w'.heap[b4]? = some (.cells (tokC t) 77 (0, 0)) ∧ w.grownBy w' (some g)) ⟨TK1.out.below (below_set (below_set (below_set (below_set HB_b4.out GE_b4.out) GE_b4.out) GE_b4.out) GE_b4.out), (blk_put (blk_put (blk_put (blk_put BK_b4.out 0 _ rfl) 1 _ rfl) 2 _ rfl) 3 _ rfl), G1.out.trans (grown_of_below (below_set (below_set (below_set (below_set HB_b4.out GE_b4.out) GE_b4.out) GE_b4.out) GE_b4.out) _)⟩ ?_
        have LB4 := Aside0.mk (Nat.le_trans G1.out.size GE_b4.out)
        clear TK1 G1 BK_b4 HB_b4 GE_b4 zb40 fb40 zb41 fb41 zb42 fb42 zb43 fb43
        rintro w3 ⟨tk3, bk3, gr3⟩
        have TK3 := Aside0.mk tk3
        have BK3 := Aside0.mk bk3
        have GR3 := Aside0.mk gr3
        clear tk3 bk3 gr3
        have k0 := (blk_cell BK3.out 0).trans (show _ = some (Value.int .i64 (t.2.kind : Int)) from rfl)
        have k1 := (blk_cell BK3.out 1).trans (show _ = some (Value.int .i64 (t.1 : Int)) from rfl)
        have k2 := (blk_cell BK3.out 2).trans (show _ = some (Value.int .i64 (t.2.n : Int)) from rfl)
        have k3 := (blk_cell BK3.out 3).trans (show _ = some (Value.string (bs t.2.text)) from rfl)
        have d1 : decide ((1000000 : Int) < (t.2.n : Int)) = false := decide_eq_false (by omega)
        have d1' : decide (1000000 < t.2.n) = false := decide_eq_false hc1
        go_upto_region 3 with ((go_at_call 35; refine (check_ok' t _ _).mono ?_; rintro e_ w4 ⟨rfl, b_⟩; have B4 := Aside0.mk b_; clear b_))
        refine at_world (F := fun w' => TkAt w' g A c (T.map toS) (i + 1) en base ∧ w'.heap[b4]? = some (.cells (tokC t) 77 (0, 0)) ∧ w.grownBy w' (some g)) ⟨TK3.out.below B4.out, blk_below BK3.out B4.out, GR3.out.trans (grown_of_below' GR3.out B4.out)⟩ ?_
        clear k0 k1 k2 k3 TK3 BK3 GR3 B4 d1 d1'
        rintro w5 ⟨tk3, bk3, gr3⟩
        have TK5 := Aside0.mk tk3
        have BK5 := Aside0.mk bk3
        have GR5 := Aside0.mk gr3
        clear tk3 bk3 gr3
        go_wp2_with (go_at_call 34; refine (take_fail2 H2.out hi1 TK5.out rfl rfl).mono ?_; rintro e_ w6 ⟨rfl, g_⟩; have G6 := Aside0.mk g_; clear g_)
        exact ⟨rfl, rfl, GR5.out.trans (grown_then GR5.out G6.out)⟩
      | ok p =>
        obtain ⟨u, r⟩ := p
        obtain ⟨rfl, hi2⟩ := take_next h2
        have H2 := Aside0.mk h2
        cases h3 : take 2 [] en (T.drop (i + 2)) with
        | error p =>
          obtain ⟨e, a⟩ := p
          have hs : spanS en (T.drop i) = .error (e, a) := by
            unfold spanS; rw [h1]; show (if _ then _ else _) = _; rw [if_neg hc1]; show (take 1 toW en (T.drop (i + 1))).bind _ = _; rw [h2]; show (take 2 [] en (T.drop (i + 2))).bind _ = _; rw [h3]; rfl
          unfold SpanSays
          rw [hs]
          show Calls Tryd.prog 33 _ w fun e' w' => (e' = .panicked [{ v := .iface 93 (.agg #[.int .i64 ((e : Nat) : Int), .int .i64 ((a : Nat) : Int)]), recovered := false }]) ∧ w.grownBy w' (some g)
          have H3 := Aside0.mk h3
          clear h1 h2 h3 hs
          go_enter Tryd.func33, Tryd.ntmps33
          go_upto_region 2 with (first | (go_at_call 34; refine (take_good2 H1.out HG.out rfl rfl).mono ?_; rintro e_ w1 ⟨rfl, tk_, g_⟩; have TK1 := Aside0.mk tk_; have G1 := Aside0.mk g_; clear tk_ g_) | ((with_reducible refine gate_dst (N := 4) rfl ?_); (try (refine gate_guard (by rfl) ?_; dsimp only)); refine box_event ?hg (N := 4) ?hd (cs := #[.int .i64 0, .int .i64 0, .int .i64 0, .string (⟨#[]⟩ : ByteArray)]) (t := 77) ?hr ?_; (case hd => rfl); (case hg => rfl); (case hr => first | (go_simp; done) | (go_simp; rfl)); intro b4 hg_b4 w2 hbox hb; have BK_b4 := Aside0.mk hbox; have HB_b4 := Aside0.mk hb; have GE_b4 := Aside0.mk (Nat.le_of_eq hg_b4.symm); clear hbox hb hg_b4; have zb40 := (blk_cell BK_b4.out 0).trans (show _ = some (Value.int .i64 0) from rfl); have fb40 := blk_frozen BK_b4.out 0; have zb41 := (blk_cell BK_b4.out 1).trans (show _ = some (Value.int .i64 0) from rfl); have fb41 := blk_frozen BK_b4.out 1; have zb42 := (blk_cell BK_b4.out 2).trans (show _ = some (Value.int .i64 0) from rfl); have fb42 := blk_frozen BK_b4.out 2; have zb43 := (blk_cell BK_b4.out 3).trans (show _ = some (Value.string (⟨#[]⟩ : ByteArray)) from rfl); have fb43 := blk_frozen BK_b4.out 3))
          refine at_world (F := fun w' => TkAt w' g A c (T.map toS) (i + 1) en base ∧ w'.heap[b4]? = some (.cells (tokC t) 77 (0, 0)) ∧ w.grownBy w' (some g)) ⟨TK1.out.below (below_set (below_set (below_set (below_set HB_b4.out GE_b4.out) GE_b4.out) GE_b4.out) GE_b4.out), (blk_put (blk_put (blk_put (blk_put BK_b4.out 0 _ rfl) 1 _ rfl) 2 _ rfl) 3 _ rfl), G1.out.trans (grown_of_below (below_set (below_set (below_set (below_set HB_b4.out GE_b4.out) GE_b4.out) GE_b4.out) GE_b4.out) _)⟩ ?_
          have LB4 := Aside0.mk (Nat.le_trans G1.out.size GE_b4.out)
          clear TK1 G1 BK_b4 HB_b4 GE_b4 zb40 fb40 zb41 fb41 zb42 fb42 zb43 fb43
          rintro w3 ⟨tk3, bk3, gr3⟩
          have TK3 := Aside0.mk tk3
          have BK3 := Aside0.mk bk3
          have GR3 := Aside0.mk gr3
          clear tk3 bk3 gr3
          have k0 := (blk_cell BK3.out 0).trans (show _ = some (Value.int .i64 (t.2.kind : Int)) from rfl)
          have k1 := (blk_cell BK3.out 1).trans (show _ = some (Value.int .i64 (t.1 : Int)) from rfl)
          have k2 := (blk_cell BK3.out 2).trans (show _ = some (Value.int .i64 (t.2.n : Int)) from rfl)
          have k3 := (blk_cell BK3.out 3).trans (show _ = some (Value.string (bs t.2.text)) from rfl)
          have d1 : decide ((1000000 : Int) < (t.2.n : Int)) = false := decide_eq_false (by omega)
          have d1' : decide (1000000 < t.2.n) = false := decide_eq_false hc1
          go_upto_region 3 with ((go_at_call 35; refine (check_ok' t _ _).mono ?_; rintro e_ w4 ⟨rfl, b_⟩; have B4 := Aside0.mk b_; clear b_))
          refine at_world (F := fun w' => TkAt w' g A c (T.map toS) (i + 1) en base ∧ w'.heap[b4]? = some (.cells (tokC t) 77 (0, 0)) ∧ w.grownBy w' (some g)) ⟨TK3.out.below B4.out, blk_below BK3.out B4.out, GR3.out.trans (grown_of_below' GR3.out B4.out)⟩ ?_
          clear k0 k1 k2 k3 TK3 BK3 GR3 B4 d1 d1'
          rintro w5 ⟨tk3, bk3, gr3⟩
          have TK5 := Aside0.mk tk3
          have BK5 := Aside0.mk bk3
          have GR5 := Aside0.mk gr3
          clear tk3 bk3 gr3
          go_upto_region 4 with ((go_at_call 34; refine (take_good2 H2.out TK5.out rfl rfl).mono ?_; rintro e_ w6 ⟨rfl, tk_, g_⟩; have TK6 := Aside0.mk tk_; have G6 := Aside0.mk g_; clear tk_ g_))
          refine at_world (F := fun w' => TkAt w' g A c (T.map toS) (i + 2) en base ∧ w'.heap[b4]? = some (.cells (tokC t) 77 (0, 0)) ∧ w.grownBy w' (some g)) ⟨TK6.out, blk_grown BK5.out G6.out (by have := LB4.out; intro e; cases e; omega), GR5.out.trans (grown_then GR5.out G6.out)⟩ ?_
          clear TK5 BK5 GR5 TK6 G6
          rintro w7 ⟨tk3, bk3, gr3⟩
          have TK7 := Aside0.mk tk3
          have BK7 := Aside0.mk bk3
          have GR7 := Aside0.mk gr3
          clear tk3 bk3 gr3
          go_wp2_with (go_at_call 34; refine (take_fail2 H3.out hi2 TK7.out rfl rfl).mono ?_; rintro e_ w8 ⟨rfl, g_⟩; have G8 := Aside0.mk g_; clear g_)
          exact ⟨rfl, rfl, GR7.out.trans (grown_then GR7.out G8.out)⟩
        | ok p =>
          obtain ⟨v, r⟩ := p
          obtain ⟨rfl, hi3⟩ := take_next h3
          have H3 := Aside0.mk h3
          by_cases hc2 : 1000000 < v.2.n ∨ v.2.n < t.2.n
          · skip
            have hs : spanS en (T.drop i) = .error (10, v.1) := by
              unfold spanS; rw [h1]; show (if _ then _ else _) = _; rw [if_neg hc1]; show (take 1 toW en (T.drop (i + 1))).bind _ = _; rw [h2]; show (take 2 [] en (T.drop (i + 2))).bind _ = _; rw [h3]; show (if _ then _ else _) = _; rw [if_pos hc2]
            unfold SpanSays
            rw [hs]
            show Calls Tryd.prog 33 _ w fun e' w' => (e' = .panicked [{ v := .iface 93 (.agg #[.int .i64 ((10 : Nat) : Int), .int .i64 ((v.1 : Nat) : Int)]), recovered := false }]) ∧ w.grownBy w' (some g)
            clear h1 h2 h3 hs
            go_enter Tryd.func33, Tryd.ntmps33
            go_upto_region 2 with (first | (go_at_call 34; refine (take_good2 H1.out HG.out rfl rfl).mono ?_; rintro e_ w1 ⟨rfl, tk_, g_⟩; have TK1 := Aside0.mk tk_; have G1 := Aside0.mk g_; clear tk_ g_) | ((with_reducible refine gate_dst (N := 4) rfl ?_); (try (refine gate_guard (by rfl) ?_; dsimp only)); refine box_event ?hg (N := 4) ?hd (cs := #[.int .i64 0, .int .i64 0, .int .i64 0, .string (⟨#[]⟩ : ByteArray)]) (t := 77) ?hr ?_; (case hd => rfl); (case hg => rfl); (case hr => first | (go_simp; done) | (go_simp; rfl)); intro b4 hg_b4 w2 hbox hb; have BK_b4 := Aside0.mk hbox; have HB_b4 := Aside0.mk hb; have GE_b4 := Aside0.mk (Nat.le_of_eq hg_b4.symm); clear hbox hb hg_b4; have zb40 := (blk_cell BK_b4.out 0).trans (show _ = some (Value.int .i64 0) from rfl); have fb40 := blk_frozen BK_b4.out 0; have zb41 := (blk_cell BK_b4.out 1).trans (show _ = some (Value.int .i64 0) from rfl); have fb41 := blk_frozen BK_b4.out 1; have zb42 := (blk_cell BK_b4.out 2).trans (show _ = some (Value.int .i64 0) from rfl); have fb42 := blk_frozen BK_b4.out 2; have zb43 := (blk_cell BK_b4.out 3).trans (show _ = some (Value.string (⟨#[]⟩ : ByteArray)) from rfl); have fb43 := blk_frozen BK_b4.out 3))
            refine at_world (F := fun w' => TkAt w' g A c (T.map toS) (i + 1) en base ∧ w'.heap[b4]? = some (.cells (tokC t) 77 (0, 0)) ∧ w.grownBy w' (some g)) ⟨TK1.out.below (below_set (below_set (below_set (below_set HB_b4.out GE_b4.out) GE_b4.out) GE_b4.out) GE_b4.out), (blk_put (blk_put (blk_put (blk_put BK_b4.out 0 _ rfl) 1 _ rfl) 2 _ rfl) 3 _ rfl), G1.out.trans (grown_of_below (below_set (below_set (below_set (below_set HB_b4.out GE_b4.out) GE_b4.out) GE_b4.out) GE_b4.out) _)⟩ ?_
            have LB4 := Aside0.mk (Nat.le_trans G1.out.size GE_b4.out)
            clear TK1 G1 BK_b4 HB_b4 GE_b4 zb40 fb40 zb41 fb41 zb42 fb42 zb43 fb43
            rintro w3 ⟨tk3, bk3, gr3⟩
            have TK3 := Aside0.mk tk3
            have BK3 := Aside0.mk bk3
            have GR3 := Aside0.mk gr3
            clear tk3 bk3 gr3
            have k0 := (blk_cell BK3.out 0).trans (show _ = some (Value.int .i64 (t.2.kind : Int)) from rfl)
            have k1 := (blk_cell BK3.out 1).trans (show _ = some (Value.int .i64 (t.1 : Int)) from rfl)
            have k2 := (blk_cell BK3.out 2).trans (show _ = some (Value.int .i64 (t.2.n : Int)) from rfl)
            have k3 := (blk_cell BK3.out 3).trans (show _ = some (Value.string (bs t.2.text)) from rfl)
            have d1 : decide ((1000000 : Int) < (t.2.n : Int)) = false := decide_eq_false (by omega)
            have d1' : decide (1000000 < t.2.n) = false := decide_eq_false hc1
            go_upto_region 3 with ((go_at_call 35; refine (check_ok' t _ _).mono ?_; rintro e_ w4 ⟨rfl, b_⟩; have B4 := Aside0.mk b_; clear b_))
            refine at_world (F := fun w' => TkAt w' g A c (T.map toS) (i + 1) en base ∧ w'.heap[b4]? = some (.cells (tokC t) 77 (0, 0)) ∧ w.grownBy w' (some g)) ⟨TK3.out.below B4.out, blk_below BK3.out B4.out, GR3.out.trans (grown_of_below' GR3.out B4.out)⟩ ?_
            clear k0 k1 k2 k3 TK3 BK3 GR3 B4 d1 d1'
            rintro w5 ⟨tk3, bk3, gr3⟩
            have TK5 := Aside0.mk tk3
            have BK5 := Aside0.mk bk3
            have GR5 := Aside0.mk gr3
            clear tk3 bk3 gr3
            go_upto_region 4 with ((go_at_call 34; refine (take_good2 H2.out TK5.out rfl rfl).mono ?_; rintro e_ w6 ⟨rfl, tk_, g_⟩; have TK6 := Aside0.mk tk_; have G6 := Aside0.mk g_; clear tk_ g_))
            refine at_world (F := fun w' => TkAt w' g A c (T.map toS) (i + 2) en base ∧ w'.heap[b4]? = some (.cells (tokC t) 77 (0, 0)) ∧ w.grownBy w' (some g)) ⟨TK6.out, blk_grown BK5.out G6.out (by have := LB4.out; intro e; cases e; omega), GR5.out.trans (grown_then GR5.out G6.out)⟩ ?_
            clear TK5 BK5 GR5 TK6 G6
            rintro w7 ⟨tk3, bk3, gr3⟩
            have TK7 := Aside0.mk tk3
            have BK7 := Aside0.mk bk3
            have GR7 := Aside0.mk gr3
            clear tk3 bk3 gr3
            go_upto_region 5 with (first | (go_at_call 34; refine (take_good2 H3.out TK7.out rfl rfl).mono ?_; rintro e_ w8 ⟨rfl, tk_, g_⟩; have TK8 := Aside0.mk tk_; have G8 := Aside0.mk g_; clear tk_ g_) | ((with_reducible refine gate_dst (N := 5) rfl ?_); (try (refine gate_guard (by rfl) ?_; dsimp only)); refine box_event ?hg (N := 5) ?hd (cs := #[.int .i64 0, .int .i64 0, .int .i64 0, .string (⟨#[]⟩ : ByteArray)]) (t := 77) ?hr ?_; (case hd => rfl); (case hg => rfl); (case hr => first | (go_simp; done) | (go_simp; rfl)); intro b5 hg_b5 w9 hbox hb; have BK_b5 := Aside0.mk hbox; have HB_b5 := Aside0.mk hb; have GE_b5 := Aside0.mk (Nat.le_of_eq hg_b5.symm); clear hbox hb hg_b5; have zb50 := (blk_cell BK_b5.out 0).trans (show _ = some (Value.int .i64 0) from rfl); have fb50 := blk_frozen BK_b5.out 0; have zb51 := (blk_cell BK_b5.out 1).trans (show _ = some (Value.int .i64 0) from rfl); have fb51 := blk_frozen BK_b5.out 1; have zb52 := (blk_cell BK_b5.out 2).trans (show _ = some (Value.int .i64 0) from rfl); have fb52 := blk_frozen BK_b5.out 2; have zb53 := (blk_cell BK_b5.out 3).trans (show _ = some (Value.string (⟨#[]⟩ : ByteArray)) from rfl); have fb53 := blk_frozen BK_b5.out 3))
            refine at_world (F := fun w' => TkAt w' g A c (T.map toS) (i + 3) en base ∧ w'.heap[b4]? = some (.cells (tokC t) 77 (0, 0)) ∧ w'.heap[b5]? = some (.cells (tokC v) 77 (0, 0)) ∧ w.grownBy w' (some g)) ⟨TK8.out.below (below_set (below_set (below_set (below_set HB_b5.out GE_b5.out) GE_b5.out) GE_b5.out) GE_b5.out), blk_below (blk_grown BK7.out G8.out (by have := LB4.out; intro e; cases e; omega)) (below_set (below_set (below_set (below_set HB_b5.out GE_b5.out) GE_b5.out) GE_b5.out) GE_b5.out), (blk_put (blk_put (blk_put (blk_put BK_b5.out 0 _ rfl) 1 _ rfl) 2 _ rfl) 3 _ rfl), (GR7.out.trans (grown_then GR7.out G8.out)).trans (grown_of_below' (GR7.out.trans (grown_then GR7.out G8.out)) (below_set (below_set (below_set (below_set HB_b5.out GE_b5.out) GE_b5.out) GE_b5.out) GE_b5.out))⟩ ?_
            clear TK7 BK7 GR7 TK8 G8 BK_b5 HB_b5 GE_b5 zb50 fb50 zb51 fb51 zb52 fb52 zb53 fb53
            rintro w10 ⟨tk3, bk3, bk4, gr3⟩
            have TK10 := Aside0.mk tk3
            have BK10 := Aside0.mk bk3
            have BL10 := Aside0.mk bk4
            have GR10 := Aside0.mk gr3
            clear tk3 bk3 bk4 gr3
            have k0 := (blk_cell BK10.out 0).trans (show _ = some (Value.int .i64 (t.2.kind : Int)) from rfl)
            have k1 := (blk_cell BK10.out 1).trans (show _ = some (Value.int .i64 (t.1 : Int)) from rfl)
            have k2 := (blk_cell BK10.out 2).trans (show _ = some (Value.int .i64 (t.2.n : Int)) from rfl)
            have k3 := (blk_cell BK10.out 3).trans (show _ = some (Value.string (bs t.2.text)) from rfl)
            have j0 := (blk_cell BL10.out 0).trans (show _ = some (Value.int .i64 (v.2.kind : Int)) from rfl)
            have j1 := (blk_cell BL10.out 1).trans (show _ = some (Value.int .i64 (v.1 : Int)) from rfl)
            have j2 := (blk_cell BL10.out 2).trans (show _ = some (Value.int .i64 (v.2.n : Int)) from rfl)
            have j3 := (blk_cell BL10.out 3).trans (show _ = some (Value.string (bs v.2.text)) from rfl)
            by_cases hc3 : 1000000 < v.2.n
            · have d1 : decide ((1000000 : Int) < (v.2.n : Int)) = true := decide_eq_true (by omega)
              have d1' : decide (1000000 < v.2.n) = true := decide_eq_true hc3
              go_wp2_with (go_at_call 35; refine (check_bad' v _ _).mono ?_; rintro e_ w11 ⟨rfl, b_⟩; have B11 := Aside0.mk b_; clear b_)
              exact ⟨rfl, rfl, GR10.out.trans (grown_of_below' GR10.out B11.out)⟩
            · have d1 : decide ((1000000 : Int) < (v.2.n : Int)) = false := decide_eq_false (by omega)
              have d1' : decide (1000000 < v.2.n) = false := decide_eq_false hc3
              have d2 : decide ((v.2.n : Int) < (t.2.n : Int)) = true := decide_eq_true (by omega)
              have d2' : decide (v.2.n < t.2.n) = true := decide_eq_true (by omega)
              go_wp2_with (go_at_call 35; refine (check_bad' v _ _).mono ?_; rintro e_ w11 ⟨rfl, b_⟩; have B11 := Aside0.mk b_; clear b_)
              exact ⟨rfl, rfl, GR10.out.trans (grown_of_below' GR10.out B11.out)⟩
          · have hs : spanS en (T.drop i) = .ok ((t.2.n, v.2.n), T.drop (i + 3)) := by
              unfold spanS; rw [h1]; show (if _ then _ else _) = _; rw [if_neg hc1]; show (take 1 toW en (T.drop (i + 1))).bind _ = _; rw [h2]; show (take 2 [] en (T.drop (i + 2))).bind _ = _; rw [h3]; show (if _ then _ else _) = _; rw [if_neg hc2]
            unfold SpanSays
            rw [hs]
            show Calls Tryd.prog 33 _ w fun e' w' => (e' = .returned (.tuple #[.int .i64 (t.2.n : Int), .int .i64 (v.2.n : Int)]) ∧ T.drop (i + 3) = T.drop (i + 3) ∧ i + 3 ≤ T.length ∧ TkAt w' g A c (T.map toS) (i + 3) en base) ∧ w.grownBy w' (some g)
            clear h1 h2 h3 hs
            go_enter Tryd.func33, Tryd.ntmps33
            go_upto_region 2 with (first | (go_at_call 34; refine (take_good2 H1.out HG.out rfl rfl).mono ?_; rintro e_ w1 ⟨rfl, tk_, g_⟩; have TK1 := Aside0.mk tk_; have G1 := Aside0.mk g_; clear tk_ g_) | ((with_reducible refine gate_dst (N := 4) rfl ?_); (try (refine gate_guard (by rfl) ?_; dsimp only)); refine box_event ?hg (N := 4) ?hd (cs := #[.int .i64 0, .int .i64 0, .int .i64 0, .string (⟨#[]⟩ : ByteArray)]) (t := 77) ?hr ?_; (case hd => rfl); (case hg => rfl); (case hr => first | (go_simp; done) | (go_simp; rfl)); intro b4 hg_b4 w2 hbox hb; have BK_b4 := Aside0.mk hbox; have HB_b4 := Aside0.mk hb; have GE_b4 := Aside0.mk (Nat.le_of_eq hg_b4.symm); clear hbox hb hg_b4; have zb40 := (blk_cell BK_b4.out 0).trans (show _ = some (Value.int .i64 0) from rfl); have fb40 := blk_frozen BK_b4.out 0; have zb41 := (blk_cell BK_b4.out 1).trans (show _ = some (Value.int .i64 0) from rfl); have fb41 := blk_frozen BK_b4.out 1; have zb42 := (blk_cell BK_b4.out 2).trans (show _ = some (Value.int .i64 0) from rfl); have fb42 := blk_frozen BK_b4.out 2; have zb43 := (blk_cell BK_b4.out 3).trans (show _ = some (Value.string (⟨#[]⟩ : ByteArray)) from rfl); have fb43 := blk_frozen BK_b4.out 3))
            refine at_world (F := fun w' => TkAt w' g A c (T.map toS) (i + 1) en base ∧ w'.heap[b4]? = some (.cells (tokC t) 77 (0, 0)) ∧ w.grownBy w' (some g)) ⟨TK1.out.below (below_set (below_set (below_set (below_set HB_b4.out GE_b4.out) GE_b4.out) GE_b4.out) GE_b4.out), (blk_put (blk_put (blk_put (blk_put BK_b4.out 0 _ rfl) 1 _ rfl) 2 _ rfl) 3 _ rfl), G1.out.trans (grown_of_below (below_set (below_set (below_set (below_set HB_b4.out GE_b4.out) GE_b4.out) GE_b4.out) GE_b4.out) _)⟩ ?_
            have LB4 := Aside0.mk (Nat.le_trans G1.out.size GE_b4.out)
            clear TK1 G1 BK_b4 HB_b4 GE_b4 zb40 fb40 zb41 fb41 zb42 fb42 zb43 fb43
            rintro w3 ⟨tk3, bk3, gr3⟩
            have TK3 := Aside0.mk tk3
            have BK3 := Aside0.mk bk3
            have GR3 := Aside0.mk gr3
            clear tk3 bk3 gr3
            have k0 := (blk_cell BK3.out 0).trans (show _ = some (Value.int .i64 (t.2.kind : Int)) from rfl)
            have k1 := (blk_cell BK3.out 1).trans (show _ = some (Value.int .i64 (t.1 : Int)) from rfl)
            have k2 := (blk_cell BK3.out 2).trans (show _ = some (Value.int .i64 (t.2.n : Int)) from rfl)
            have k3 := (blk_cell BK3.out 3).trans (show _ = some (Value.string (bs t.2.text)) from rfl)
            have d1 : decide ((1000000 : Int) < (t.2.n : Int)) = false := decide_eq_false (by omega)
            have d1' : decide (1000000 < t.2.n) = false := decide_eq_false hc1
            go_upto_region 3 with ((go_at_call 35; refine (check_ok' t _ _).mono ?_; rintro e_ w4 ⟨rfl, b_⟩; have B4 := Aside0.mk b_; clear b_))
            refine at_world (F := fun w' => TkAt w' g A c (T.map toS) (i + 1) en base ∧ w'.heap[b4]? = some (.cells (tokC t) 77 (0, 0)) ∧ w.grownBy w' (some g)) ⟨TK3.out.below B4.out, blk_below BK3.out B4.out, GR3.out.trans (grown_of_below' GR3.out B4.out)⟩ ?_
            clear k0 k1 k2 k3 TK3 BK3 GR3 B4 d1 d1'
            rintro w5 ⟨tk3, bk3, gr3⟩
            have TK5 := Aside0.mk tk3
            have BK5 := Aside0.mk bk3
            have GR5 := Aside0.mk gr3
            clear tk3 bk3 gr3
            go_upto_region 4 with ((go_at_call 34; refine (take_good2 H2.out TK5.out rfl rfl).mono ?_; rintro e_ w6 ⟨rfl, tk_, g_⟩; have TK6 := Aside0.mk tk_; have G6 := Aside0.mk g_; clear tk_ g_))
            refine at_world (F := fun w' => TkAt w' g A c (T.map toS) (i + 2) en base ∧ w'.heap[b4]? = some (.cells (tokC t) 77 (0, 0)) ∧ w.grownBy w' (some g)) ⟨TK6.out, blk_grown BK5.out G6.out (by have := LB4.out; intro e; cases e; omega), GR5.out.trans (grown_then GR5.out G6.out)⟩ ?_
            clear TK5 BK5 GR5 TK6 G6
            rintro w7 ⟨tk3, bk3, gr3⟩
            have TK7 := Aside0.mk tk3
            have BK7 := Aside0.mk bk3
            have GR7 := Aside0.mk gr3
            clear tk3 bk3 gr3
            go_upto_region 5 with (first | (go_at_call 34; refine (take_good2 H3.out TK7.out rfl rfl).mono ?_; rintro e_ w8 ⟨rfl, tk_, g_⟩; have TK8 := Aside0.mk tk_; have G8 := Aside0.mk g_; clear tk_ g_) | ((with_reducible refine gate_dst (N := 5) rfl ?_); (try (refine gate_guard (by rfl) ?_; dsimp only)); refine box_event ?hg (N := 5) ?hd (cs := #[.int .i64 0, .int .i64 0, .int .i64 0, .string (⟨#[]⟩ : ByteArray)]) (t := 77) ?hr ?_; (case hd => rfl); (case hg => rfl); (case hr => first | (go_simp; done) | (go_simp; rfl)); intro b5 hg_b5 w9 hbox hb; have BK_b5 := Aside0.mk hbox; have HB_b5 := Aside0.mk hb; have GE_b5 := Aside0.mk (Nat.le_of_eq hg_b5.symm); clear hbox hb hg_b5; have zb50 := (blk_cell BK_b5.out 0).trans (show _ = some (Value.int .i64 0) from rfl); have fb50 := blk_frozen BK_b5.out 0; have zb51 := (blk_cell BK_b5.out 1).trans (show _ = some (Value.int .i64 0) from rfl); have fb51 := blk_frozen BK_b5.out 1; have zb52 := (blk_cell BK_b5.out 2).trans (show _ = some (Value.int .i64 0) from rfl); have fb52 := blk_frozen BK_b5.out 2; have zb53 := (blk_cell BK_b5.out 3).trans (show _ = some (Value.string (⟨#[]⟩ : ByteArray)) from rfl); have fb53 := blk_frozen BK_b5.out 3))
            refine at_world (F := fun w' => TkAt w' g A c (T.map toS) (i + 3) en base ∧ w'.heap[b4]? = some (.cells (tokC t) 77 (0, 0)) ∧ w'.heap[b5]? = some (.cells (tokC v) 77 (0, 0)) ∧ w.grownBy w' (some g)) ⟨TK8.out.below (below_set (below_set (below_set (below_set HB_b5.out GE_b5.out) GE_b5.out) GE_b5.out) GE_b5.out), blk_below (blk_grown BK7.out G8.out (by have := LB4.out; intro e; cases e; omega)) (below_set (below_set (below_set (below_set HB_b5.out GE_b5.out) GE_b5.out) GE_b5.out) GE_b5.out), (blk_put (blk_put (blk_put (blk_put BK_b5.out 0 _ rfl) 1 _ rfl) 2 _ rfl) 3 _ rfl), (GR7.out.trans (grown_then GR7.out G8.out)).trans (grown_of_below' (GR7.out.trans (grown_then GR7.out G8.out)) (below_set (below_set (below_set (below_set HB_b5.out GE_b5.out) GE_b5.out) GE_b5.out) GE_b5.out))⟩ ?_
            clear TK7 BK7 GR7 TK8 G8 BK_b5 HB_b5 GE_b5 zb50 fb50 zb51 fb51 zb52 fb52 zb53 fb53
            rintro w10 ⟨tk3, bk3, bk4, gr3⟩
            have TK10 := Aside0.mk tk3
            have BK10 := Aside0.mk bk3
            have BL10 := Aside0.mk bk4
            have GR10 := Aside0.mk gr3
            clear tk3 bk3 bk4 gr3
            have k0 := (blk_cell BK10.out 0).trans (show _ = some (Value.int .i64 (t.2.kind : Int)) from rfl)
            have k1 := (blk_cell BK10.out 1).trans (show _ = some (Value.int .i64 (t.1 : Int)) from rfl)
            have k2 := (blk_cell BK10.out 2).trans (show _ = some (Value.int .i64 (t.2.n : Int)) from rfl)
            have k3 := (blk_cell BK10.out 3).trans (show _ = some (Value.string (bs t.2.text)) from rfl)
            have j0 := (blk_cell BL10.out 0).trans (show _ = some (Value.int .i64 (v.2.kind : Int)) from rfl)
            have j1 := (blk_cell BL10.out 1).trans (show _ = some (Value.int .i64 (v.1 : Int)) from rfl)
            have j2 := (blk_cell BL10.out 2).trans (show _ = some (Value.int .i64 (v.2.n : Int)) from rfl)
            have j3 := (blk_cell BL10.out 3).trans (show _ = some (Value.string (bs v.2.text)) from rfl)
            have d1 : decide ((1000000 : Int) < (v.2.n : Int)) = false := decide_eq_false (by omega)
            have d1' : decide (1000000 < v.2.n) = false := decide_eq_false (by omega)
            have d2 : decide ((v.2.n : Int) < (t.2.n : Int)) = false := decide_eq_false (by omega)
            have d2' : decide (v.2.n < t.2.n) = false := decide_eq_false (by omega)
            go_upto_region 6 with (go_at_call 35; refine (check_ok' v _ _).mono ?_; rintro e_ w11 ⟨rfl, b_⟩; have B11 := Aside0.mk b_; clear b_)
            refine at_world (F := fun w' => TkAt w' g A c (T.map toS) (i + 3) en base ∧ w'.heap[b4]? = some (.cells (tokC t) 77 (0, 0)) ∧ w'.heap[b5]? = some (.cells (tokC v) 77 (0, 0)) ∧ w.grownBy w' (some g)) ⟨TK10.out.below B11.out, blk_below BK10.out B11.out, blk_below BL10.out B11.out, GR10.out.trans (grown_of_below' GR10.out B11.out)⟩ ?_
            clear k0 k1 k2 k3 j0 j1 j2 j3 TK10 BK10 BL10 GR10 B11
            rintro w12 ⟨tk3, bk3, bk4, gr3⟩
            have k2 := (blk_cell bk3 2).trans (show _ = some (Value.int .i64 (t.2.n : Int)) from rfl)
            have j2 := (blk_cell bk4 2).trans (show _ = some (Value.int .i64 (v.2.n : Int)) from rfl)
            go_quiet (fail)
            go_wp2
            refine bodyPost_ret (v := .tuple #[.int .i64 (t.2.n : Int), .int .i64 (v.2.n : Int)]) (by simp [results, Tryd.results33, go_sem]) rfl ⟨⟨rfl, (by first | rfl | trivial), hi3, tk3.below (pw_below_drewN (Below.refl _ _) _)⟩, gr3.trans (grown_of_below' gr3 (pw_below_drewN (Below.refl _ _) _))⟩
end Go.Proofs.YtgddmfphlhlcjaaDoor.FcW
