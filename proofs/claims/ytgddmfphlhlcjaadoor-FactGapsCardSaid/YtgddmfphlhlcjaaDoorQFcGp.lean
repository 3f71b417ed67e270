/- A text written anew, each token on a line of its own, reads alike; the law FactGaps answers true. -/
import Derived.Test.YtgddmfphlhlcjaaDoorMg20
namespace Go.Proofs.YtgddmfphlhlcjaaDoor.FcW
open Go.RowKit Go.Proofs.YtgddmfphlhlcjaaDoorW.PrintWords Go.Proofs.YtgddmfphlhlcjaaDoorW.PrintLast Go.Proofs.YtgddmfphlhlcjaaDoorW.PrintMore
open Go.Proofs.YtgddmfphlhlcjaaDoor Go.Proofs.YtgddmfphlhlcjaaDoor.PF Go.Proofs.YtgddmfphlhlcjaaDoor.LxP Go.Proofs.YtgddmfphlhlcjaaDoor.LxW Go.Proofs.YtgddmfphlhlcjaaDoor.FcP
set_option linter.unusedVariables false
set_option linter.unusedSimpArgs false

/-- The tokens with a line feed after each. -/
def lnT : List (Nat × Tk) → List UInt8
  | [] => []
  | p :: ts => LxP.written p.2 ++ 10 :: lnT ts
theorem lnT_lex {off : Nat} {l : List UInt8} {ts : List (Nat × Tk)} (h : LexAt off l ts) : ∀ o, ∃ us, LexAt o (lnT ts) us ∧ us.map (·.2) = ts.map (·.2) ∧
    ∃ us', LexAt o (10 :: lnT ts) us' ∧ us'.map (·.2) = ts.map (·.2) := by
  induction h with
  | done off g b hg => exact fun o => ⟨[], .done o [] false rfl, rfl, [], .done o [10] false rfl, rfl⟩
  | more off g w r t ts hg hw h ih =>
    intro o
    have hv : ∀ x, TokV w t (10 :: x) := fun x => hw.sep (fun y s e => by cases e; decide)
    obtain ⟨us, _, _, us', i1, i2⟩ := ih (o + w.length)
    obtain ⟨us2, _, _, us2', j1, j2⟩ := ih (o + 1 + w.length)
    have hw' := hw.width.2.1
    refine ⟨(o + ([] : List UInt8).length, t) :: us', ?_, by simp [i2], (o + [(10 : UInt8)].length, t) :: us2', ?_, by simp [j2]⟩
    · have := LexAt.more o [] w (10 :: lnT ts) t us' rfl (hv _) (by simpa using i1)
      simp only [lnT, ← hw']
      exact this
    · have := LexAt.more o [10] w (10 :: lnT ts) t us2' rfl (hv _) (by simpa using j1)
      simp only [lnT, ← hw']
      exact this
theorem lnT_len {off : Nat} {l : List UInt8} {ts : List (Nat × Tk)} (h : LexAt off l ts) : (lnT ts).length ≤ 2 * l.length := by
  induction h with
  | done off g b hg => simp [lnT]
  | more off g w r t ts hg hw h ih =>
    obtain ⟨w1, w2, w3⟩ := hw.width
    simp only [lnT, ← w2, List.length_append, List.length_cons]
    omega
theorem lnT_ok {s : ByteArray} {T : Ts} (h : LexAt 0 (byts s) T) (hs : s.size ≤ 2000) : (lnT T).length ≤ 4000 ∧ lex s.data.toList = .ok T ∧ ∃ us, lex (bs (lnT T)).data.toList = .ok us ∧ us.map (·.2) = T.map (·.2) := by
  have hl : s.data.toList.length = s.size := byts_length s
  have h1 := lnT_len h
  rw [byts_length] at h1
  obtain ⟨us, h2, h3, _⟩ := lnT_lex h 0
  have hl2 : (bs (lnT T)).data.toList.length = (bs (lnT T)).size := byts_length (bs (lnT T))
  rw [bs_size] at hl2
  exact ⟨by omega, lex_ok h (by omega), us, lex_ok (show LexAt 0 (byts (bs (lnT T))) us by rw [byts_bs (lnT T)]; exact h2) (by omega), h3⟩
theorem parse_apart {s : ByteArray} {T : Ts} (h : LexAt 0 (byts s) T) (hs : s.size ≤ 2000) : (parseO (bs (lnT T))).1 = (parseO s).1 ∧ (parseO (bs (lnT T))).2.1 = (parseO s).2.1 := by
  obtain ⟨h1, hx, us, hy, h2⟩ := lnT_ok h hs
  unfold parseO
  rw [if_neg (by rw [bs_size]; omega), if_neg (by omega), hx, hy]
  show (outP (parse (bs (lnT T)).size us)).1 = (outP (parse s.size T)).1 ∧ (outP (parse (bs (lnT T)).size us)).2.1 = (outP (parse s.size T)).2.1
  have hr := parse_rel (bs (lnT T)).size s.size (ts := us) (us := T) h2
  generalize parse (bs (lnT T)).size us = p at hr ⊢
  generalize parse s.size T = q at hr ⊢
  cases p with
  | error a =>
    cases q with
    | error b =>
      have hr' : a.1 = b.1 := hr
      exact ⟨rfl, by show (a.1 : Int) = (b.1 : Int); rw [hr']⟩
    | ok b => exact hr.elim
  | ok a =>
    cases q with
    | error b => exact hr.elim
    | ok b =>
      have hr' : a = b := hr
      subst hr'
      exact ⟨rfl, rfl⟩
theorem case_apart {d : List Fc} {s : ByteArray} {T : Ts} (h : LexAt 0 (byts s) T) (hs : s.size ≤ 2000) : (caseO d (bs (lnT T))).1 = (caseO d s).1 ∧ (caseO d (bs (lnT T))).2.1 = (caseO d s).2.1 := by
  obtain ⟨h1, hx, us, hy, h2⟩ := lnT_ok h hs
  unfold caseO
  by_cases hv : Valid d
  · rw [if_pos hv, if_pos hv, if_neg (by rw [bs_size]; omega), if_neg (by omega), hx, hy]
    show (outC (parseCase d (bs (lnT T)).size us)).1 = (outC (parseCase d s.size T)).1 ∧ (outC (parseCase d (bs (lnT T)).size us)).2.1 = (outC (parseCase d s.size T)).2.1
    have hr := parseCase_rel d (bs (lnT T)).size s.size (ts := us) (us := T) h2
    generalize parseCase d (bs (lnT T)).size us = p at hr ⊢
    generalize parseCase d s.size T = q at hr ⊢
    cases p with
    | error a =>
      cases q with
      | error b =>
        have hr' : a.1 = b.1 := hr
        exact ⟨rfl, by show (a.1 : Int) = (b.1 : Int); rw [hr']⟩
      | ok b => exact hr.elim
    | ok a =>
      cases q with
      | error b => exact hr.elim
      | ok b =>
        have hr' : a = b := hr
        subst hr'
        exact ⟨rfl, rfl⟩
  · rw [if_neg hv, if_neg hv]
    exact ⟨rfl, rfl⟩
/-! apart -/
theorem apart_from (T : Ts) : ∀ (n j k : Nat) (pre : List UInt8), T.length - j = n → j ≤ T.length → n < k → pre.length + (lnT (T.drop j)).length ≤ 1000000 → T.length ≤ 1000000 → customhouselaw24_apart.l0 k (T.map toS) (bs pre) (j : Int) = some (bs (pre ++ lnT (T.drop j))) := by
  intro n
  induction n with
  | zero =>
    intro j k pre hn hj hk hb hT
    obtain ⟨k, rfl⟩ : ∃ m, k = m + 1 := ⟨k - 1, by omega⟩
    have hjl : j = T.length := by omega
    subst hjl
    rw [customhouselaw24_apart.l0, if_neg (by rw [List.length_map]; omega), List.drop_length]
    simp [lnT]
  | succ n ih =>
    intro j k pre hn hj hk hb hT
    obtain ⟨k, rfl⟩ : ∃ m, k = m + 1 := ⟨k - 1, by omega⟩
    have hjl : j < T.length := by omega
    have hx := rdT7_get (l := T.map toS) (i := j) (by rw [List.length_map]; exact hjl)
    rw [List.getElem_map] at hx
    have hd : T.drop j = T[j] :: T.drop (j + 1) := List.drop_eq_getElem_cons hjl
    rw [hd] at hb ⊢
    clear hd
    generalize T[j] = t at hx hb ⊢
    have hlt : (j : Int) < ((T.map toS).length : Int) := by rw [List.length_map]; omega
    rw [customhouselaw24_apart.l0, if_pos hlt, if_pos (show (0 : Int) ≤ (j : Int) by omega), hx, wrap_succ (by omega)]
    have ef : (toS t).f3 = bs t.2.text := rfl
    have ek : (toS t).f0 = (t.2.kind : Int) := rfl
    rw [ef, ek]
    have hl : lnT (t :: T.drop (j + 1)) = LxP.written t.2 ++ 10 :: lnT (T.drop (j + 1)) := rfl
    rw [hl] at hb ⊢
    by_cases h3 : t.2.kind = 3
    · have hwr : LxP.written t.2 = 34 :: (t.2.text ++ [34]) := by unfold LxP.written; rw [if_pos h3]
      rw [hwr] at hb ⊢
      simp only [List.length_append, List.length_cons, List.length_nil] at hb
      rw [if_pos (show (t.2.kind : Int) = 3 by omega)]
      show (if (bs pre).size + 1 ≤ 9223372036854775807 then (if (bs pre ++ bs [34]).size + (bs t.2.text).size ≤ 9223372036854775807 then (if (bs pre ++ bs [34] ++ bs t.2.text).size + 2 ≤ 9223372036854775807 then customhouselaw24_apart.l0 k (T.map toS) (bs pre ++ bs [34] ++ bs t.2.text ++ bs [34, 10]) ((j + 1 : Nat) : Int) else none) else none) else none) = _
      rw [bs_append, bs_append, bs_append, bs_size, bs_size, bs_size, bs_size]
      rw [if_pos (by omega), if_pos (by simp only [List.length_append, List.length_cons, List.length_nil]; omega), if_pos (by simp only [List.length_append, List.length_cons, List.length_nil]; omega)]
      rw [ih (j + 1) k _ (by omega) (by omega) (by omega) (by simp only [List.length_append, List.length_cons, List.length_nil]; omega) hT]
      congr 2
      simp
    · have hwr : LxP.written t.2 = t.2.text := by unfold LxP.written; rw [if_neg h3]
      rw [hwr] at hb ⊢
      simp only [List.length_append, List.length_cons] at hb
      rw [if_neg (show ¬ (t.2.kind : Int) = 3 by omega)]
      show (if (bs pre).size + (bs t.2.text).size ≤ 9223372036854775807 then (if (bs pre ++ bs t.2.text).size + 1 ≤ 9223372036854775807 then customhouselaw24_apart.l0 k (T.map toS) (bs pre ++ bs t.2.text ++ bs [10]) ((j + 1 : Nat) : Int) else none) else none) = _
      rw [bs_append, bs_append, bs_size, bs_size, bs_size]
      rw [if_pos (by omega), if_pos (by simp only [List.length_append]; omega)]
      rw [ih (j + 1) k _ (by omega) (by omega) (by omega) (by simp only [List.length_append, List.length_cons, List.length_nil]; omega) hT]
      congr 2
      simp
theorem lnT_long : ∀ T : Ts, T.length ≤ (lnT T).length
  | [] => Nat.le_refl _
  | p :: T => by
    have := lnT_long T
    simp only [lnT, List.length_append, List.length_cons]
    omega
section
variable {W w : World} {b : Nat} {A A1 : Option Addr} {c c1 : Nat} {l0 : List S42}
theorem apart_any {g : Nat} {ok : Nat → Prop} {v : Value} {T : Ts} (hv : Kd.R k77 77 w g ok v (T.map toS)) (hb : (lnT T).length ≤ 4000) (s : ByteArray) (hs : bs (lnT T) = s) : Calls Tryd.prog 22 #[v] w fun e w' => e = .returned (.string s) ∧ Below w.heap.size w w' := by
  subst hs
  obtain ⟨A, c, e⟩ := Kd.R_slice hv
  subst e
  obtain ⟨g1, g2, g3⟩ := Kd.R_reads' hv
  have hT := lnT_long T
  refine (customhouselaw24_apart.calls (T.length + 1) A c (T.map toS) (bs (lnT T)) w g3 g2 ?_).mono fun e w' h => ⟨h.1, drawn_below h.2⟩
  have h := apart_from T T.length 0 (T.length + 1) [] (by omega) (by omega) (by omega) (by simp only [List.drop_zero, List.length_nil]; omega) (by omega)
  rw [List.drop_zero, List.nil_append] at h
  exact h
theorem lex_in (s : ByteArray) (r : List S77) (x y : Int) (hr : lexT s = (r, x, y)) (w : World) : Calls Tryd.prog 21 #[.string s] w fun e w' => ∃ v : Value, e = .returned (.tuple #[v, .int .i64 x, .int .i64 y]) ∧ Kd.R k77 77 w' w.heap.size (fun _ => True) v r ∧ Below w.heap.size w w' := by
  have h := lex_any s w
  rw [hr] at h
  exact h
theorem few_0 (hd : DomIn W A c l0) (X : Bx W b A l0.length c w) (r : Bool) (h : fewB l0 = r) : Calls Tryd.prog 9 #[.agg #[.slice A l0.length c], .slice none 0 0] w fun e w' => e = .returned (.bool r) ∧ Below w.heap.size w w' := by
  obtain ⟨h1, h2, h3⟩ := Kd.R_reads' (Kd.R_nil (Kd.int .i64) 3 w 0 (fun _ => True))
  exact few_any A c l0 none 0 [] w (Kd.C_below hd.1 X.2) hd.2 h3 h2 r (by rw [← h]; simp)
theorem parse_in' (s : ByteArray) (r : List S42) (x y : Int) (hr : parseO s = (r, x, y)) (w : World) : Calls Tryd.prog 12 #[.string s] w fun e w' => ∃ v : Value, e = .returned (.tuple #[.agg #[v], .int .i64 x, .int .i64 y]) ∧ Kd.R k42 42 w' w.heap.size (fun _ => True) v r ∧ Below w.heap.size w w' :=
  parse_ex s r x y w hr
theorem same_RR {g1 g2 : Nat} {ok1 ok2 : Nat → Prop} {v1 v2 : Value} {y : List S42} (h1 : Kd.R k42 42 w g1 ok1 v1 y) (h2 : Kd.R k42 42 w g2 ok2 v2 y) (hm : y.length ≤ 1000000) : Calls Tryd.prog 13 #[.agg #[v1], .agg #[v2]] w fun e w' => e = .returned (.bool true) ∧ Below w.heap.size w w' := by
  obtain ⟨A1, c1, e1⟩ := Kd.R_slice h1
  subst e1
  obtain ⟨A2, c2, e2⟩ := Kd.R_slice h2
  subst e2
  obtain ⟨g3, g4, g5⟩ := Kd.R_reads' h1
  obtain ⟨g6, g7, g8⟩ := Kd.R_reads' h2
  exact same_any A1 c1 y A2 c2 y w g5 g4 g8 g7 (by omega) true (decide_eq_true rfl)
theorem case_in' (hd : DomIn W A c l0) (hs : Small l0) (X : Bx W b A l0.length c w) (s : ByteArray) (r : List Int) (x y : Int) (hr : caseO (l0.map toF) s = (r, x, y)) : Calls Tryd.prog 15 #[.agg #[.slice A l0.length c], .string s] w fun e w' => ∃ v : Value, e = .returned (.tuple #[v, .int .i64 x, .int .i64 y]) ∧ Kd.R (Kd.int .i64) 3 w' w.heap.size (fun _ => True) v r ∧ Below w.heap.size w w' := by
  have h1 := case_any A c l0 s w (Kd.C_below hd.1 X.2) hd.2 hs
  rw [hr] at h1
  exact h1
theorem dom_short {n : Nat} {r : List S42 × Int × Int} (h : DomGood n r) : r.1.length ≤ 1000000 := by
  rcases h with ⟨_, h, _⟩ | ⟨_, h, _⟩
  · rw [h]; exact Nat.zero_le _
  · have := h.2.2; rw [List.length_map] at this; omega
theorem case_short {d : List Fc} {n : Nat} {r : List Int × Int × Int} (h : CaseGood d n r) : r.1.length ≤ 1000000 := by
  rcases h with ⟨_, h, _⟩ | ⟨_, h, _⟩
  · rw [h]; exact Nat.zero_le _
  · have h1 := within_length h.2; have h2 := h.1.2.2; omega
/-- What holds ahead of the last look. -/
def GpW (W : World) (bx : Nat) (A : Option Addr) (n c : Nat) (g1 g2 : Nat) (v1 v2 : Value) (r1 : List S77) (r2 : List Int) (w : World) : Prop :=
  Bx W bx A n c w ∧ Kd.R k77 77 w g1 (fun _ => True) v1 r1 ∧ Kd.R (Kd.int .i64) 3 w g2 (fun _ => True) v2 r2
theorem GpW.below {bx n g1 g2 : Nat} {v1 v2 : Value} {r1 : List S77} {r2 : List Int} {w' : World} (h : GpW W bx A n c g1 g2 v1 v2 r1 r2 w) (hb : Below w.heap.size w w') : GpW W bx A n c g1 g2 v1 v2 r1 r2 w' :=
  ⟨h.1.below hb, Kd.R_below h.2.1 hb, Kd.R_below h.2.2 hb⟩
theorem GpW.ints {bx n g1 g2 : Nat} {v1 v2 : Value} {r1 : List S77} {r2 : List Int} (h : GpW W bx A n c g1 g2 v1 v2 r1 r2 w) : Kd.R (Kd.int .i64) 3 w g2 (fun _ => True) v2 r2 := h.2.2
theorem GpW.bx {bx n g1 g2 : Nat} {v1 v2 : Value} {r1 : List S77} {r2 : List Int} (h : GpW W bx A n c g1 g2 v1 v2 r1 r2 w) : Bx W bx A n c w := h.1
end

set_option maxHeartbeats 64000000 in
set_option maxRecDepth 100000 in
theorem gaps_early (A : Option Addr) (c : Nat) (l0 : List S42) (s u : ByteArray) (W : World) (hd : DomIn W A c l0) (ht : Tab W) (hE : ¬ (fewB l0 = true ∧ s.size ≤ 2000 ∧ u.size ≤ 2000)) :
    Calls Tryd.prog 7 #[.agg #[.slice A l0.length c], .string s, .string u] W fun e w' => e = .returned (.bool true) ∧ Below W.heap.size W w' := by
  have HD := Aside0.mk hd
  have HT := Aside0.mk ht
  clear hd ht
  obtain ⟨bf, hbf⟩ : ∃ bf, fewB l0 = bf := ⟨_, rfl⟩
  obtain ⟨b1, hb1⟩ : ∃ b1, decide ((2000 : Int) < (s.size : Int)) = b1 := ⟨_, rfl⟩
  have hb1' : decide (2000 < s.size) = b1 := by rw [← hb1]; exact decide_eq_decide.2 (by omega)
  obtain ⟨b2, hb2⟩ : ∃ b2, decide ((2000 : Int) < (u.size : Int)) = b2 := ⟨_, rfl⟩
  have hb2' : decide (2000 < u.size) = b2 := by rw [← hb2]; exact decide_eq_decide.2 (by omega)
  have HBF := Aside0.mk hbf
  have HE := Aside0.mk hE
  clear hbf hE
  go_enter Tryd.func7, Tryd.ntmps7
  go_upto_region 1 with (first | ((with_reducible refine gate_dst (N := 3) rfl ?_); (try (refine gate_guard (by rfl) ?_; dsimp only)); refine box_event ?hg (N := 3) ?hd (cs := #[.slice A l0.length c]) (t := 24) ?hr ?_; (case hd => rfl); (case hg => rfl); (case hr => first | (go_simp; done) | (go_simp; rfl)); intro bx hg_bx wbx hbox hb; have BK_bx := Aside0.mk hbox; have HB_bx := Aside0.mk hb; have GE_bx := Aside0.mk (Nat.le_of_eq hg_bx.symm); clear hbox hb hg_bx))
  refine at_world (F := fun w' => Bx W bx A l0.length c w') ⟨BK_bx.out, HB_bx.out⟩ ?_
  clear BK_bx HB_bx GE_bx
  intro w0 p_
  have X0 := Aside0.mk p_
  clear p_
  have xc0 := X0.out.cell
  go_upto_region 2 with (first | (go_at_call 8; ((with_reducible refine (head_in HT.out X0.out.wb).mono ?_)); rintro e_ wz1 ⟨rfl, hb_⟩; have X1 := Aside0.mk (X0.out.below hb_); have HB1 := Aside0.mk hb_; have xc1 := X1.out.cell; clear hb_))
  cases bf with
  | false =>
    go_wp2_with (first | (go_at_call 9; ((with_reducible refine (few_0 HD.out X1.out false HBF.out).mono ?_)); rintro e_ wz2 ⟨rfl, hb_⟩; have X2 := Aside0.mk (X1.out.below hb_); have HB2 := Aside0.mk hb_; have xc2 := X2.out.cell; clear hb_))
    go_ret
    exact ⟨rfl, X2.out.wb⟩
  | true =>
    cases b1 with
    | true =>
      go_wp2_with (first | (go_at_call 9; ((with_reducible refine (few_0 HD.out X1.out true HBF.out).mono ?_)); rintro e_ wz2 ⟨rfl, hb_⟩; have X2 := Aside0.mk (X1.out.below hb_); have HB2 := Aside0.mk hb_; have xc2 := X2.out.cell; clear hb_))
      go_ret
      exact ⟨rfl, X2.out.wb⟩
    | false =>
      cases b2 with
      | true =>
        go_wp2_with (first | (go_at_call 9; ((with_reducible refine (few_0 HD.out X1.out true HBF.out).mono ?_)); rintro e_ wz2 ⟨rfl, hb_⟩; have X2 := Aside0.mk (X1.out.below hb_); have HB2 := Aside0.mk hb_; have xc2 := X2.out.cell; clear hb_))
        go_ret
        exact ⟨rfl, X2.out.wb⟩
      | false => exact absurd ⟨HBF.out, by have := of_decide_eq_false hb1'; omega, by have := of_decide_eq_false hb2'; omega⟩ HE.out
set_option maxHeartbeats 64000000 in
set_option maxRecDepth 100000 in
theorem gaps_00 (A : Option Addr) (c : Nat) (l0 : List S42) (s u : ByteArray) (W : World) (hd : DomIn W A c l0) (ht : Tab W) (hF : fewB l0 = true) (h2 : s.size ≤ 2000) (h3 : u.size ≤ 2000) {T1 : Ts} (ha : LexAt 0 (byts s) T1) {T2 : Ts} (hb : LexAt 0 (byts u) T2)  :
    Calls Tryd.prog 7 #[.agg #[.slice A l0.length c], .string s, .string u] W fun e w' => e = .returned (.bool true) ∧ Below W.heap.size W w' := by
  have HD := Aside0.mk hd
  have HT := Aside0.mk ht
  clear hd ht
  have HBF := Aside0.mk hF
  have HSM := Aside0.mk (few_small hF).1
  have h2s : decide ((2000 : Int) < (s.size : Int)) = false := decide_eq_false (by omega)
  have h2s' : decide (2000 < s.size) = false := decide_eq_false (by omega)
  have h2u : decide ((2000 : Int) < (u.size : Int)) = false := decide_eq_false (by omega)
  have h2u' : decide (2000 < u.size) = false := decide_eq_false (by omega)
  obtain ⟨r1, x1, a1, hr1, hx1, hl1⟩ : ∃ (r1 : List S77) (x1 a1 : Int), r1 = T1.map toS ∧ x1 = 0 ∧ lexT s = (r1, x1, a1) := ⟨_, _, _, rfl, rfl, lexT_ok ha (by omega)⟩
  have HL1 := Aside0.mk hl1
  have HR1 := Aside0.mk hr1
  have HLL1 := Aside0.mk (lnT_ok ha h2).1
  obtain ⟨⟨y1, y2, y3⟩, hy⟩ : ∃ r, parseO s = r := ⟨_, rfl⟩
  have HY := Aside0.mk hy
  have HYL := Aside0.mk (show y1.length ≤ 1000000 by have := dom_short (parseO_ok s (by omega)); rwa [hy] at this)
  obtain ⟨sa, hsa⟩ : ∃ sa, bs (lnT T1) = sa := ⟨_, rfl⟩
  have HSA := Aside0.mk hsa
  obtain ⟨⟨u1, u2, u3⟩, hu⟩ : ∃ r, parseO sa = r := ⟨_, rfl⟩
  have hpa := parse_apart ha h2
  rw [hsa, hu, hy] at hpa
  obtain ⟨ea, eb⟩ := hpa
  have ea' : u1 = y1 := ea
  have eb' : u2 = y2 := eb
  rw [ea'] at hu
  rw [eb'] at hu
  have HU := Aside0.mk hu
  have hyy : (y2 != y2) = false := by simp
  clear hl1 hr1 hy hsa hu ea eb ea' eb' ha
  obtain ⟨r2, x2, a2, hr2, hx2, hl2⟩ : ∃ (r2 : List S77) (x2 a2 : Int), r2 = T2.map toS ∧ x2 = 0 ∧ lexT u = (r2, x2, a2) := ⟨_, _, _, rfl, rfl, lexT_ok hb (by omega)⟩
  have HL2 := Aside0.mk hl2
  have HR2 := Aside0.mk hr2
  have HLL2 := Aside0.mk (lnT_ok hb h3).1
  obtain ⟨⟨z1, z2, z3⟩, hz⟩ : ∃ r, caseO (l0.map toF) u = r := ⟨_, rfl⟩
  have HZ := Aside0.mk hz
  have HZL := Aside0.mk (show z1.length ≤ 1000000 by have := case_short (caseO_ok (l0.map toF) u (by omega)); rwa [hz] at this)
  obtain ⟨sb, hsb⟩ : ∃ sb, bs (lnT T2) = sb := ⟨_, rfl⟩
  have HSB := Aside0.mk hsb
  obtain ⟨⟨o1, o2, o3⟩, ho⟩ : ∃ r, caseO (l0.map toF) sb = r := ⟨_, rfl⟩
  have hpb := case_apart (d := l0.map toF) hb h3
  rw [hsb, ho, hz] at hpb
  obtain ⟨ec, ed⟩ := hpb
  have ec' : o1 = z1 := ec
  have ed' : o2 = z2 := ed
  rw [ec', ed'] at ho
  have HO := Aside0.mk ho
  clear hl2 hr2 hz hsb ho ec ed ec' ed' hb
  clear hF h2 h3
  go_enter Tryd.func7, Tryd.ntmps7
  go_upto_region 1 with (first | ((with_reducible refine gate_dst (N := 3) rfl ?_); (try (refine gate_guard (by rfl) ?_; dsimp only)); refine box_event ?hg (N := 3) ?hd (cs := #[.slice A l0.length c]) (t := 24) ?hr ?_; (case hd => rfl); (case hg => rfl); (case hr => first | (go_simp; done) | (go_simp; rfl)); intro bx hg_bx wbx hbox hb; have BK_bx := Aside0.mk hbox; have HB_bx := Aside0.mk hb; have GE_bx := Aside0.mk (Nat.le_of_eq hg_bx.symm); clear hbox hb hg_bx))
  refine at_world (F := fun w' => Bx W bx A l0.length c w') ⟨BK_bx.out, HB_bx.out⟩ ?_
  clear BK_bx HB_bx GE_bx
  intro w0 p_
  have X0 := Aside0.mk p_
  clear p_
  have xc0 := X0.out.cell
  go_upto_region 2 with (first | (go_at_call 8; ((with_reducible refine (head_in HT.out X0.out.wb).mono ?_)); rintro e_ wz1 ⟨rfl, hb_⟩; have X1 := Aside0.mk (X0.out.below hb_); have HB1 := Aside0.mk hb_; have xc1 := X1.out.cell; clear hb_))
  go_upto_region 4 with (first | (go_at_call 9; ((with_reducible refine (few_0 HD.out X1.out true HBF.out).mono ?_)); rintro e_ wz2 ⟨rfl, hb_⟩; have X2 := Aside0.mk (X1.out.below hb_); have HB2 := Aside0.mk hb_; have xc2 := X2.out.cell; clear hb_))
  refine at_world (F := fun w' => Bx W bx A l0.length c w') X2.out ?_
  clear X0 xc0 X1 xc1 X2 xc2 HB1 HB2 h2s h2s' h2u h2u'
  intro w2 p_
  have X2 := Aside0.mk p_
  clear p_
  have xc2 := X2.out.cell
  go_upto_region 6 with (first | (go_at_call 21; ((with_reducible refine (lex_in s r1 x1 a1 HL1.out _).mono ?_)); rintro e_ wz3 ⟨v8, rfl, hv_, hb_⟩; have X3 := Aside0.mk (X2.out.below hb_); have HB3 := Aside0.mk hb_; have xc3 := X3.out.cell; have L1_ := Aside0.mk hv_; clear hv_; clear hb_) | (go_at_call 21; ((with_reducible refine (lex_in u r2 x2 a2 HL2.out _).mono ?_)); rintro e_ wz4 ⟨v11, rfl, hv_, hb_⟩; have X4 := Aside0.mk (X3.out.below hb_); have HB4 := Aside0.mk hb_; have xc4 := X4.out.cell; have L2_ := Aside0.mk hv_; clear hv_; clear hb_))
  obtain ⟨g8, L1⟩ : ∃ g, Aside0 (Kd.R k77 77 wz3 g (fun _ => True) v8 r1) := ⟨_, L1_⟩
  obtain ⟨g11, L2⟩ : ∃ g, Aside0 (Kd.R k77 77 wz4 g (fun _ => True) v11 r2) := ⟨_, L2_⟩
  refine at_world (F := fun w' => Bx W bx A l0.length c w' ∧ Kd.R k77 77 w' g8 (fun _ => True) v8 r1 ∧ Kd.R k77 77 w' g11 (fun _ => True) v11 r2) ⟨X4.out, Kd.R_below L1.out HB4.out, L2.out⟩ ?_
  clear X2 xc2 X3 xc3 X4 xc4 HB3 HB4 L1_ L2_ L1 L2
  rintro w5 ⟨p_, q_, r_⟩
  have X5 := Aside0.mk p_
  have L1 := Aside0.mk q_
  have L2 := Aside0.mk r_
  clear p_ q_ r_
  have xc5 := X5.out.cell
  have hr1 := HR1.out
  subst hr1
  subst hx1
  go_upto_region 8 with (first | (go_at_call 12; ((with_reducible refine (parse_in' s y1 y2 y3 HY.out _).mono ?_)); rintro e_ wz6 ⟨v14, rfl, hv_, hb_⟩; have X6 := Aside0.mk (X5.out.below hb_); have HB6 := Aside0.mk hb_; have xc6 := X6.out.cell; obtain ⟨A14, c14, e14⟩ := Kd.R_slice hv_; subst e14; have V14_ := Aside0.mk hv_; clear hv_; clear hb_) | ((with_reducible refine gate_dst (N := 14) rfl ?_); (try (refine gate_guard (by rfl) ?_; dsimp only)); refine box_event ?hg (N := 14) ?hd (cs := #[.slice none 0 0]) (t := 24) ?hr ?_; (case hd => rfl); (case hg => rfl); (case hr => first | (go_simp; done) | (go_simp; rfl)); intro b14 hg_b14 wb14 hbox hb; have BK_b14 := Aside0.mk hbox; have HB_b14 := Aside0.mk hb; have GE_b14 := Aside0.mk (Nat.le_of_eq hg_b14.symm); clear hbox hb hg_b14; have zb140 := (blk_cell BK_b14.out 0).trans (show _ = some (Value.slice none 0 0) from rfl); have fb140 := blk_frozen BK_b14.out 0))
  obtain ⟨g14, V14⟩ : ∃ g, Aside0 (Kd.R k42 42 wz6 g (fun _ => True) (.slice A14 y1.length c14) y1) := ⟨_, V14_⟩
  refine at_world (F := fun w' => Bx W bx A l0.length c w' ∧ Kd.R k77 77 w' g8 (fun _ => True) v8 (T1.map toS) ∧ Kd.R k77 77 w' g11 (fun _ => True) v11 r2 ∧ w'.heap[b14]? = some (.cells #[.slice A14 y1.length c14] 24 (0, 0)) ∧ Kd.R k42 42 w' g14 (fun _ => True) (.slice A14 y1.length c14) y1) ⟨X6.out.below (below_set HB_b14.out GE_b14.out), Kd.R_below L1.out (below_step HB6.out (below_set HB_b14.out GE_b14.out)), Kd.R_below L2.out (below_step HB6.out (below_set HB_b14.out GE_b14.out)), blk_put BK_b14.out 0 _ rfl, Kd.R_set (Kd.R_below V14.out HB_b14.out) BK_b14.out (by decide) 0 _⟩ ?_
  clear X5 xc5 X6 xc6 HB6 V14_ V14 L1 L2 BK_b14 HB_b14 GE_b14 zb140 fb140
  rintro w7 ⟨p_, q_, r_, s_, t_⟩
  have X7 := Aside0.mk p_
  have L1 := Aside0.mk q_
  have L2 := Aside0.mk r_
  have C14 := Aside0.mk s_
  have V14 := Aside0.mk t_
  clear p_ q_ r_ s_ t_
  have xc7 := X7.out.cell
  go_upto_region 9 with (first | (go_at_call 22; ((with_reducible refine (apart_any L1.out HLL1.out sa HSA.out).mono ?_)); rintro e_ wz8 ⟨rfl, hb_⟩; have X8 := Aside0.mk (X7.out.below hb_); have HB8 := Aside0.mk hb_; have xc8 := X8.out.cell; clear hb_) | (go_at_call 12; ((with_reducible refine (parse_in' sa y1 y2 u3 HU.out _).mono ?_)); rintro e_ wz9 ⟨v17, rfl, hv_, hb_⟩; have X9 := Aside0.mk (X8.out.below hb_); have HB9 := Aside0.mk hb_; have xc9 := X9.out.cell; obtain ⟨A17, c17, e17⟩ := Kd.R_slice hv_; subst e17; have V17_ := Aside0.mk hv_; clear hv_; clear hb_) | ((with_reducible refine gate_dst (N := 17) rfl ?_); (try (refine gate_guard (by rfl) ?_; dsimp only)); refine box_event ?hg (N := 17) ?hd (cs := #[.slice none 0 0]) (t := 24) ?hr ?_; (case hd => rfl); (case hg => rfl); (case hr => first | (go_simp; done) | (go_simp; rfl)); intro b17 hg_b17 wb17 hbox hb; have BK_b17 := Aside0.mk hbox; have HB_b17 := Aside0.mk hb; have GE_b17 := Aside0.mk (Nat.le_of_eq hg_b17.symm); clear hbox hb hg_b17; have zb170 := (blk_cell BK_b17.out 0).trans (show _ = some (Value.slice none 0 0) from rfl); have fb170 := blk_frozen BK_b17.out 0))
  obtain ⟨g17, V17⟩ : ∃ g, Aside0 (Kd.R k42 42 wz9 g (fun _ => True) (.slice A17 y1.length c17) y1) := ⟨_, V17_⟩
  refine at_world (F := fun w' => Bx W bx A l0.length c w' ∧ Kd.R k77 77 w' g11 (fun _ => True) v11 r2 ∧ w'.heap[b14]? = some (.cells #[.slice A14 y1.length c14] 24 (0, 0)) ∧ Kd.R k42 42 w' g14 (fun _ => True) (.slice A14 y1.length c14) y1 ∧ w'.heap[b17]? = some (.cells #[.slice A17 y1.length c17] 24 (0, 0)) ∧ Kd.R k42 42 w' g17 (fun _ => True) (.slice A17 y1.length c17) y1) ⟨X9.out.below (below_set HB_b17.out GE_b17.out), Kd.R_below L2.out (below_step HB8.out (below_step HB9.out (below_set HB_b17.out GE_b17.out))), blk_below C14.out (below_step HB8.out (below_step HB9.out (below_set HB_b17.out GE_b17.out))), Kd.R_below V14.out (below_step HB8.out (below_step HB9.out (below_set HB_b17.out GE_b17.out))), blk_put BK_b17.out 0 _ rfl, Kd.R_set (Kd.R_below V17.out HB_b17.out) BK_b17.out (by decide) 0 _⟩ ?_
  clear X7 xc7 X8 xc8 X9 xc9 HB8 HB9 V17_ V17 V14 C14 L1 L2 BK_b17 HB_b17 GE_b17 zb170 fb170
  rintro w10 ⟨p_, q_, r_, s_, t_, u_⟩
  have X10 := Aside0.mk p_
  have L2 := Aside0.mk q_
  have c14_ := (blk_cell r_ 0).trans (show _ = some (Value.slice A14 y1.length c14) from rfl)
  have V14 := Aside0.mk s_
  have c17_ := (blk_cell t_ 0).trans (show _ = some (Value.slice A17 y1.length c17) from rfl)
  have V17 := Aside0.mk u_
  clear p_ q_ r_ s_ t_ u_
  have xc10 := X10.out.cell
  go_upto_region 11 with (first | (go_at_call 13; ((with_reducible refine (same_RR V14.out V17.out HYL.out).mono ?_)); rintro e_ wz11 ⟨rfl, hb_⟩; have X11 := Aside0.mk (X10.out.below hb_); have HB11 := Aside0.mk hb_; have xc11 := X11.out.cell; clear hb_))
  refine at_world (F := fun w' => Bx W bx A l0.length c w' ∧ Kd.R k77 77 w' g11 (fun _ => True) v11 r2) ⟨X11.out, Kd.R_below L2.out HB11.out⟩ ?_
  clear X10 xc10 X11 xc11 HB11 L2 c14_ V14 c17_ V17
  rintro w12 ⟨p_, q_⟩
  have X12 := Aside0.mk p_
  have L2 := Aside0.mk q_
  clear p_ q_
  have xc12 := X12.out.cell
  have hr2 := HR2.out
  subst hr2
  subst hx2
  go_upto_region 14 with (first | (go_at_call 15; ((with_reducible refine (case_in' HD.out HSM.out X12.out u z1 z2 z3 HZ.out).mono ?_)); rintro e_ wz13 ⟨v20, rfl, hv_, hb_⟩; have X13 := Aside0.mk (X12.out.below hb_); have HB13 := Aside0.mk hb_; have xc13 := X13.out.cell; have V20_ := Aside0.mk hv_; clear hv_; clear hb_))
  obtain ⟨g20, V20⟩ : ∃ g, Aside0 (Kd.R (Kd.int .i64) 3 wz13 g (fun _ => True) v20 z1) := ⟨_, V20_⟩
  have G13 := Aside0.mk (show GpW W bx A l0.length c g11 g20 v11 v20 (T2.map toS) z1 wz13 from ⟨X13.out, Kd.R_below L2.out HB13.out, V20.out⟩)
  clear X12 xc12 X13 HB13 V20_ V20 L2
  refine start_ (n := 11) (S := fun w' => w'.cell? ⟨bx, 0, none⟩ = some (.slice A l0.length c)) (ds := []) #[false, false, false, false, false, false, false, false, false, false, false] (by kernel_rfl) rfl rfl xc13 (fun hHeld => ?_)
  obtain ⟨wd, hwd⟩ : ∃ wd, wz13.drew = wd := ⟨_, rfl⟩
  have Gd := Aside0.mk (show GpW W bx A l0.length c g11 g20 v11 v20 (T2.map toS) z1 wd by rw [← hwd]; exact G13.out.below (below_drew1 (Below.refl _ _)))
  rw [hwd] at hHeld ⊢
  clear hwd xc13 G13
  refine take_ (i := 0) (N := some 88) (v := ?_) (a' := ?_) #[true, false, false, false, false, false, false, false, false, false, false] rfl rfl (by kernel_rfl) (fun _ _ _ h => h) (Or.inl ⟨by rfl, ?_⟩) hHeld ?_ ?_
  rotate_left
  · rintro w' s0
    go_simp
    with_reducible rfl
  rotate_left
  · simp only [Act.put, List.setIfInBounds_toArray, List.set_cons_zero, List.set_cons_succ, i64_w, i32_w]
    rfl
  refine pure_ (i := 1) (N := some 89) (v := ?_) (a' := ?_) #[true, true, false, false, false, false, false, false, false, false, false] rfl rfl (by kernel_rfl) (fun _ _ _ h => h) (Or.inl ⟨by rfl, ?_⟩) ?_ ?_
  rotate_left
  · intro w'
    go_simp
    with_reducible rfl
  rotate_left
  · simp only [Act.put, List.setIfInBounds_toArray, List.set_cons_zero, List.set_cons_succ, i64_w, i32_w]
    rfl
  refine one_ (i := 2) (N := some 90) #[true, true, true, false, false, false, false, false, false, false, false] rfl rfl (by kernel_rfl) (by decide) (fun K hK => ?_)
  refine goes_ Tryd.func22 (by kernel_rfl) rfl #[v11] (by rfl) rfl rfl (by (try simp only [List.map_toArray, List.map_cons, List.map_nil]); first | done | rfl) ?_
  refine (apart_any Gd.out.2.1 HLL2.out sb HSB.out).mono ?_
  rintro e_ wi ⟨rfl, bi⟩
  refine ⟨_, rfl, ?_⟩
  have Gi := Aside0.mk (Gd.out.below bi)
  refine hK.out _ _ Gi.out.1.cell (fun hHeld => ?_)
  clear hK K bi Gd
  refine norm_ (a' := ?_) ?_ ?_
  rotate_left
  · show Act.put _ (some 90) _ = _
    simp only [Act.put, List.setIfInBounds_toArray, List.set_cons_zero, List.set_cons_succ, i64_w, i32_w]
    rfl
  refine one_ (i := 3) (N := some 91) #[true, true, true, true, false, false, false, false, false, false, false] rfl rfl (by kernel_rfl) (by decide) (fun K hK => ?_)
  refine goes_ Tryd.func15 (by kernel_rfl) rfl #[.agg #[.slice A l0.length c], .string sb] (by rfl) rfl rfl (by (try simp only [List.map_toArray, List.map_cons, List.map_nil]); first | done | rfl) ?_
  refine (case_in' HD.out HSM.out Gi.out.1 sb z1 z2 o3 HO.out).mono ?_
  rintro e_ wj ⟨v23, rfl, hv_, bj⟩
  refine ⟨_, rfl, ?_⟩
  have Gj := Aside0.mk (Gi.out.below bj)
  have V23 := Aside0.mk hv_
  refine hK.out _ _ Gj.out.1.cell (fun hHeld => ?_)
  clear hK K bj Gi hv_
  refine norm_ (a' := ?_) ?_ ?_
  rotate_left
  · show Act.put _ (some 91) _ = _
    simp only [Act.put, List.setIfInBounds_toArray, List.set_cons_zero, List.set_cons_succ, i64_w, i32_w]
    rfl
  refine pure_ (i := 4) (N := some 87) (v := ?_) (a' := ?_) #[true, true, true, true, true, false, false, false, false, false, false] rfl rfl (by kernel_rfl) (fun _ _ _ h => h) (Or.inl ⟨by rfl, ?_⟩) ?_ ?_
  rotate_left
  · intro w'
    go_simp
    with_reducible rfl
  rotate_left
  · simp only [Act.put, List.setIfInBounds_toArray, List.set_cons_zero, List.set_cons_succ, i64_w, i32_w]
    rfl
  refine pure_ (i := 5) (N := some 92) (v := ?_) (a' := ?_) #[true, true, true, true, true, true, false, false, false, false, false] rfl rfl (by kernel_rfl) (fun _ _ _ h => h) (Or.inl ⟨by rfl, ?_⟩) ?_ ?_
  rotate_left
  · intro w'
    go_simp
    with_reducible rfl
  rotate_left
  · simp only [Act.put, List.setIfInBounds_toArray, List.set_cons_zero, List.set_cons_succ, i64_w, i32_w]
    rfl
  refine pure_ (i := 6) (N := some 93) (v := ?_) (a' := ?_) #[true, true, true, true, true, true, true, false, false, false, false] rfl rfl (by kernel_rfl) (fun _ _ _ h => h) (Or.inl ⟨by rfl, ?_⟩) ?_ ?_
  rotate_left
  · intro w'
    go_simp
    with_reducible rfl
  rotate_left
  · simp only [Act.put, List.setIfInBounds_toArray, List.set_cons_zero, List.set_cons_succ, i64_w, i32_w]
    rfl
  refine pure_ (i := 7) (N := some 94) (v := ?_) (a' := ?_) #[true, true, true, true, true, true, true, true, false, false, false] rfl rfl (by kernel_rfl) (fun _ _ _ h => h) (Or.inl ⟨by rfl, ?_⟩) ?_ ?_
  rotate_left
  · intro w'
    go_simp
    with_reducible rfl
  rotate_left
  · simp only [Act.put, List.setIfInBounds_toArray, List.set_cons_zero, List.set_cons_succ, i64_w, i32_w]
    rfl
  refine pure_ (i := 8) (N := some 23) (v := ?_) (a' := ?_) #[true, true, true, true, true, true, true, true, true, false, false] rfl rfl (by kernel_rfl) (fun _ _ _ h => h) (Or.inl ⟨by rfl, ?_⟩) ?_ ?_
  rotate_left
  · intro w'
    go_simp
    with_reducible rfl
  rotate_left
  · simp only [Act.put, List.setIfInBounds_toArray, List.set_cons_zero, List.set_cons_succ, i64_w, i32_w]
    rfl
  refine pure_ (i := 9) (N := some 24) (v := ?_) (a' := ?_) #[true, true, true, true, true, true, true, true, true, true, false] rfl rfl (by kernel_rfl) (fun _ _ _ h => h) (Or.inl ⟨by rfl, ?_⟩) ?_ ?_
  rotate_left
  · intro w'
    go_simp
    with_reducible rfl
  rotate_left
  · simp only [Act.put, List.setIfInBounds_toArray, List.set_cons_zero, List.set_cons_succ, i64_w, i32_w]
    rfl
  refine pure_ (i := 10) (N := some 25) (v := ?_) (a' := ?_) #[true, true, true, true, true, true, true, true, true, true, true] rfl rfl (by kernel_rfl) (fun _ _ _ h => h) (Or.inl ⟨by rfl, ?_⟩) ?_ ?_
  rotate_left
  · intro w'
    go_simp
    with_reducible rfl
  rotate_left
  · simp only [Act.put, List.setIfInBounds_toArray, List.set_cons_zero, List.set_cons_succ, i64_w, i32_w]
    rfl
  refine done_ (by kernel_rfl) ?_
  have HLM := Aside0.mk (show z1.length ≤ 1000000000000000000 by have := HZL.out; omega)
  have hzz : (z2 == z2) = true := by rw [beq_iff_eq]
  go_wp2_with (first | (go_at_call 17; ((with_reducible refine (equal_R Gj.out.ints V23.out HLM.out true (decide_eq_true rfl)).mono ?_)); rintro e_ wk ⟨rfl, hb_⟩; have XK := Aside0.mk (Gj.out.bx.below hb_); clear hb_))
  go_ret
  exact ⟨rfl, XK.out.wb⟩
set_option maxHeartbeats 64000000 in
set_option maxRecDepth 100000 in
theorem gaps_01 (A : Option Addr) (c : Nat) (l0 : List S42) (s u : ByteArray) (W : World) (hd : DomIn W A c l0) (ht : Tab W) (hF : fewB l0 = true) (h2 : s.size ≤ 2000) (h3 : u.size ≤ 2000) {T1 : Ts} (ha : LexAt 0 (byts s) T1) {e2 p2 j2 : Nat} (hb : LexErr 0 (byts u) e2 p2 j2)  :
    Calls Tryd.prog 7 #[.agg #[.slice A l0.length c], .string s, .string u] W fun e w' => e = .returned (.bool true) ∧ Below W.heap.size W w' := by
  have HD := Aside0.mk hd
  have HT := Aside0.mk ht
  clear hd ht
  have HBF := Aside0.mk hF
  have HSM := Aside0.mk (few_small hF).1
  have h2s : decide ((2000 : Int) < (s.size : Int)) = false := decide_eq_false (by omega)
  have h2s' : decide (2000 < s.size) = false := decide_eq_false (by omega)
  have h2u : decide ((2000 : Int) < (u.size : Int)) = false := decide_eq_false (by omega)
  have h2u' : decide (2000 < u.size) = false := decide_eq_false (by omega)
  obtain ⟨r1, x1, a1, hr1, hx1, hl1⟩ : ∃ (r1 : List S77) (x1 a1 : Int), r1 = T1.map toS ∧ x1 = 0 ∧ lexT s = (r1, x1, a1) := ⟨_, _, _, rfl, rfl, lexT_ok ha (by omega)⟩
  have HL1 := Aside0.mk hl1
  have HR1 := Aside0.mk hr1
  have HLL1 := Aside0.mk (lnT_ok ha h2).1
  obtain ⟨⟨y1, y2, y3⟩, hy⟩ : ∃ r, parseO s = r := ⟨_, rfl⟩
  have HY := Aside0.mk hy
  have HYL := Aside0.mk (show y1.length ≤ 1000000 by have := dom_short (parseO_ok s (by omega)); rwa [hy] at this)
  obtain ⟨sa, hsa⟩ : ∃ sa, bs (lnT T1) = sa := ⟨_, rfl⟩
  have HSA := Aside0.mk hsa
  obtain ⟨⟨u1, u2, u3⟩, hu⟩ : ∃ r, parseO sa = r := ⟨_, rfl⟩
  have hpa := parse_apart ha h2
  rw [hsa, hu, hy] at hpa
  obtain ⟨ea, eb⟩ := hpa
  have ea' : u1 = y1 := ea
  have eb' : u2 = y2 := eb
  rw [ea'] at hu
  rw [eb'] at hu
  have HU := Aside0.mk hu
  have hyy : (y2 != y2) = false := by simp
  clear hl1 hr1 hy hsa hu ea eb ea' eb' ha
  obtain ⟨r2, x2, a2, hx2, hl2⟩ : ∃ (r2 : List S77) (x2 a2 : Int), x2 ≠ 0 ∧ lexT u = (r2, x2, a2) := ⟨_, _, _, by have := lexErr_two hb; omega, lexT_bad hb (by omega)⟩
  have HL2 := Aside0.mk hl2
  have hf2 : (x2 != 0) = true := by rw [bne_iff_ne]; exact hx2
  clear hl2 hb
  clear hF h2 h3
  go_enter Tryd.func7, Tryd.ntmps7
  go_upto_region 1 with (first | ((with_reducible refine gate_dst (N := 3) rfl ?_); (try (refine gate_guard (by rfl) ?_; dsimp only)); refine box_event ?hg (N := 3) ?hd (cs := #[.slice A l0.length c]) (t := 24) ?hr ?_; (case hd => rfl); (case hg => rfl); (case hr => first | (go_simp; done) | (go_simp; rfl)); intro bx hg_bx wbx hbox hb; have BK_bx := Aside0.mk hbox; have HB_bx := Aside0.mk hb; have GE_bx := Aside0.mk (Nat.le_of_eq hg_bx.symm); clear hbox hb hg_bx))
  refine at_world (F := fun w' => Bx W bx A l0.length c w') ⟨BK_bx.out, HB_bx.out⟩ ?_
  clear BK_bx HB_bx GE_bx
  intro w0 p_
  have X0 := Aside0.mk p_
  clear p_
  have xc0 := X0.out.cell
  go_upto_region 2 with (first | (go_at_call 8; ((with_reducible refine (head_in HT.out X0.out.wb).mono ?_)); rintro e_ wz1 ⟨rfl, hb_⟩; have X1 := Aside0.mk (X0.out.below hb_); have HB1 := Aside0.mk hb_; have xc1 := X1.out.cell; clear hb_))
  go_upto_region 4 with (first | (go_at_call 9; ((with_reducible refine (few_0 HD.out X1.out true HBF.out).mono ?_)); rintro e_ wz2 ⟨rfl, hb_⟩; have X2 := Aside0.mk (X1.out.below hb_); have HB2 := Aside0.mk hb_; have xc2 := X2.out.cell; clear hb_))
  refine at_world (F := fun w' => Bx W bx A l0.length c w') X2.out ?_
  clear X0 xc0 X1 xc1 X2 xc2 HB1 HB2 h2s h2s' h2u h2u'
  intro w2 p_
  have X2 := Aside0.mk p_
  clear p_
  have xc2 := X2.out.cell
  go_upto_region 6 with (first | (go_at_call 21; ((with_reducible refine (lex_in s r1 x1 a1 HL1.out _).mono ?_)); rintro e_ wz3 ⟨v8, rfl, hv_, hb_⟩; have X3 := Aside0.mk (X2.out.below hb_); have HB3 := Aside0.mk hb_; have xc3 := X3.out.cell; have L1_ := Aside0.mk hv_; clear hv_; clear hb_) | (go_at_call 21; ((with_reducible refine (lex_in u r2 x2 a2 HL2.out _).mono ?_)); rintro e_ wz4 ⟨v11, rfl, hv_, hb_⟩; have X4 := Aside0.mk (X3.out.below hb_); have HB4 := Aside0.mk hb_; have xc4 := X4.out.cell; have L2_ := Aside0.mk hv_; clear hv_; clear hb_))
  obtain ⟨g8, L1⟩ : ∃ g, Aside0 (Kd.R k77 77 wz3 g (fun _ => True) v8 r1) := ⟨_, L1_⟩
  obtain ⟨g11, L2⟩ : ∃ g, Aside0 (Kd.R k77 77 wz4 g (fun _ => True) v11 r2) := ⟨_, L2_⟩
  refine at_world (F := fun w' => Bx W bx A l0.length c w' ∧ Kd.R k77 77 w' g8 (fun _ => True) v8 r1 ∧ Kd.R k77 77 w' g11 (fun _ => True) v11 r2) ⟨X4.out, Kd.R_below L1.out HB4.out, L2.out⟩ ?_
  clear X2 xc2 X3 xc3 X4 xc4 HB3 HB4 L1_ L2_ L1 L2
  rintro w5 ⟨p_, q_, r_⟩
  have X5 := Aside0.mk p_
  have L1 := Aside0.mk q_
  have L2 := Aside0.mk r_
  clear p_ q_ r_
  have xc5 := X5.out.cell
  have hr1 := HR1.out
  subst hr1
  subst hx1
  go_upto_region 8 with (first | (go_at_call 12; ((with_reducible refine (parse_in' s y1 y2 y3 HY.out _).mono ?_)); rintro e_ wz6 ⟨v14, rfl, hv_, hb_⟩; have X6 := Aside0.mk (X5.out.below hb_); have HB6 := Aside0.mk hb_; have xc6 := X6.out.cell; obtain ⟨A14, c14, e14⟩ := Kd.R_slice hv_; subst e14; have V14_ := Aside0.mk hv_; clear hv_; clear hb_) | ((with_reducible refine gate_dst (N := 14) rfl ?_); (try (refine gate_guard (by rfl) ?_; dsimp only)); refine box_event ?hg (N := 14) ?hd (cs := #[.slice none 0 0]) (t := 24) ?hr ?_; (case hd => rfl); (case hg => rfl); (case hr => first | (go_simp; done) | (go_simp; rfl)); intro b14 hg_b14 wb14 hbox hb; have BK_b14 := Aside0.mk hbox; have HB_b14 := Aside0.mk hb; have GE_b14 := Aside0.mk (Nat.le_of_eq hg_b14.symm); clear hbox hb hg_b14; have zb140 := (blk_cell BK_b14.out 0).trans (show _ = some (Value.slice none 0 0) from rfl); have fb140 := blk_frozen BK_b14.out 0))
  obtain ⟨g14, V14⟩ : ∃ g, Aside0 (Kd.R k42 42 wz6 g (fun _ => True) (.slice A14 y1.length c14) y1) := ⟨_, V14_⟩
  refine at_world (F := fun w' => Bx W bx A l0.length c w' ∧ Kd.R k77 77 w' g8 (fun _ => True) v8 (T1.map toS) ∧ Kd.R k77 77 w' g11 (fun _ => True) v11 r2 ∧ w'.heap[b14]? = some (.cells #[.slice A14 y1.length c14] 24 (0, 0)) ∧ Kd.R k42 42 w' g14 (fun _ => True) (.slice A14 y1.length c14) y1) ⟨X6.out.below (below_set HB_b14.out GE_b14.out), Kd.R_below L1.out (below_step HB6.out (below_set HB_b14.out GE_b14.out)), Kd.R_below L2.out (below_step HB6.out (below_set HB_b14.out GE_b14.out)), blk_put BK_b14.out 0 _ rfl, Kd.R_set (Kd.R_below V14.out HB_b14.out) BK_b14.out (by decide) 0 _⟩ ?_
  clear X5 xc5 X6 xc6 HB6 V14_ V14 L1 L2 BK_b14 HB_b14 GE_b14 zb140 fb140
  rintro w7 ⟨p_, q_, r_, s_, t_⟩
  have X7 := Aside0.mk p_
  have L1 := Aside0.mk q_
  have L2 := Aside0.mk r_
  have C14 := Aside0.mk s_
  have V14 := Aside0.mk t_
  clear p_ q_ r_ s_ t_
  have xc7 := X7.out.cell
  go_upto_region 9 with (first | (go_at_call 22; ((with_reducible refine (apart_any L1.out HLL1.out sa HSA.out).mono ?_)); rintro e_ wz8 ⟨rfl, hb_⟩; have X8 := Aside0.mk (X7.out.below hb_); have HB8 := Aside0.mk hb_; have xc8 := X8.out.cell; clear hb_) | (go_at_call 12; ((with_reducible refine (parse_in' sa y1 y2 u3 HU.out _).mono ?_)); rintro e_ wz9 ⟨v17, rfl, hv_, hb_⟩; have X9 := Aside0.mk (X8.out.below hb_); have HB9 := Aside0.mk hb_; have xc9 := X9.out.cell; obtain ⟨A17, c17, e17⟩ := Kd.R_slice hv_; subst e17; have V17_ := Aside0.mk hv_; clear hv_; clear hb_) | ((with_reducible refine gate_dst (N := 17) rfl ?_); (try (refine gate_guard (by rfl) ?_; dsimp only)); refine box_event ?hg (N := 17) ?hd (cs := #[.slice none 0 0]) (t := 24) ?hr ?_; (case hd => rfl); (case hg => rfl); (case hr => first | (go_simp; done) | (go_simp; rfl)); intro b17 hg_b17 wb17 hbox hb; have BK_b17 := Aside0.mk hbox; have HB_b17 := Aside0.mk hb; have GE_b17 := Aside0.mk (Nat.le_of_eq hg_b17.symm); clear hbox hb hg_b17; have zb170 := (blk_cell BK_b17.out 0).trans (show _ = some (Value.slice none 0 0) from rfl); have fb170 := blk_frozen BK_b17.out 0))
  obtain ⟨g17, V17⟩ : ∃ g, Aside0 (Kd.R k42 42 wz9 g (fun _ => True) (.slice A17 y1.length c17) y1) := ⟨_, V17_⟩
  refine at_world (F := fun w' => Bx W bx A l0.length c w' ∧ Kd.R k77 77 w' g11 (fun _ => True) v11 r2 ∧ w'.heap[b14]? = some (.cells #[.slice A14 y1.length c14] 24 (0, 0)) ∧ Kd.R k42 42 w' g14 (fun _ => True) (.slice A14 y1.length c14) y1 ∧ w'.heap[b17]? = some (.cells #[.slice A17 y1.length c17] 24 (0, 0)) ∧ Kd.R k42 42 w' g17 (fun _ => True) (.slice A17 y1.length c17) y1) ⟨X9.out.below (below_set HB_b17.out GE_b17.out), Kd.R_below L2.out (below_step HB8.out (below_step HB9.out (below_set HB_b17.out GE_b17.out))), blk_below C14.out (below_step HB8.out (below_step HB9.out (below_set HB_b17.out GE_b17.out))), Kd.R_below V14.out (below_step HB8.out (below_step HB9.out (below_set HB_b17.out GE_b17.out))), blk_put BK_b17.out 0 _ rfl, Kd.R_set (Kd.R_below V17.out HB_b17.out) BK_b17.out (by decide) 0 _⟩ ?_
  clear X7 xc7 X8 xc8 X9 xc9 HB8 HB9 V17_ V17 V14 C14 L1 L2 BK_b17 HB_b17 GE_b17 zb170 fb170
  rintro w10 ⟨p_, q_, r_, s_, t_, u_⟩
  have X10 := Aside0.mk p_
  have L2 := Aside0.mk q_
  have c14_ := (blk_cell r_ 0).trans (show _ = some (Value.slice A14 y1.length c14) from rfl)
  have V14 := Aside0.mk s_
  have c17_ := (blk_cell t_ 0).trans (show _ = some (Value.slice A17 y1.length c17) from rfl)
  have V17 := Aside0.mk u_
  clear p_ q_ r_ s_ t_ u_
  have xc10 := X10.out.cell
  go_upto_region 11 with (first | (go_at_call 13; ((with_reducible refine (same_RR V14.out V17.out HYL.out).mono ?_)); rintro e_ wz11 ⟨rfl, hb_⟩; have X11 := Aside0.mk (X10.out.below hb_); have HB11 := Aside0.mk hb_; have xc11 := X11.out.cell; clear hb_))
  refine at_world (F := fun w' => Bx W bx A l0.length c w' ∧ Kd.R k77 77 w' g11 (fun _ => True) v11 r2) ⟨X11.out, Kd.R_below L2.out HB11.out⟩ ?_
  clear X10 xc10 X11 xc11 HB11 L2 c14_ V14 c17_ V17
  rintro w12 ⟨p_, q_⟩
  have X12 := Aside0.mk p_
  have L2 := Aside0.mk q_
  clear p_ q_
  have xc12 := X12.out.cell
  go_wp2
  go_ret
  exact ⟨rfl, X12.out.wb⟩
set_option maxHeartbeats 64000000 in
set_option maxRecDepth 100000 in
theorem gaps_10 (A : Option Addr) (c : Nat) (l0 : List S42) (s u : ByteArray) (W : World) (hd : DomIn W A c l0) (ht : Tab W) (hF : fewB l0 = true) (h2 : s.size ≤ 2000) (h3 : u.size ≤ 2000) {e1 p1 j1 : Nat} (ha : LexErr 0 (byts s) e1 p1 j1) {T2 : Ts} (hb : LexAt 0 (byts u) T2)  :
    Calls Tryd.prog 7 #[.agg #[.slice A l0.length c], .string s, .string u] W fun e w' => e = .returned (.bool true) ∧ Below W.heap.size W w' := by
  have HD := Aside0.mk hd
  have HT := Aside0.mk ht
  clear hd ht
  have HBF := Aside0.mk hF
  have HSM := Aside0.mk (few_small hF).1
  have h2s : decide ((2000 : Int) < (s.size : Int)) = false := decide_eq_false (by omega)
  have h2s' : decide (2000 < s.size) = false := decide_eq_false (by omega)
  have h2u : decide ((2000 : Int) < (u.size : Int)) = false := decide_eq_false (by omega)
  have h2u' : decide (2000 < u.size) = false := decide_eq_false (by omega)
  obtain ⟨r1, x1, a1, hx1, hl1⟩ : ∃ (r1 : List S77) (x1 a1 : Int), x1 ≠ 0 ∧ lexT s = (r1, x1, a1) := ⟨_, _, _, by have := lexErr_two ha; omega, lexT_bad ha (by omega)⟩
  have HL1 := Aside0.mk hl1
  have hf1 : (x1 == 0) = false := by rw [beq_eq_false_iff_ne]; exact hx1
  clear hl1 ha
  obtain ⟨r2, x2, a2, hr2, hx2, hl2⟩ : ∃ (r2 : List S77) (x2 a2 : Int), r2 = T2.map toS ∧ x2 = 0 ∧ lexT u = (r2, x2, a2) := ⟨_, _, _, rfl, rfl, lexT_ok hb (by omega)⟩
  have HL2 := Aside0.mk hl2
  have HR2 := Aside0.mk hr2
  have HLL2 := Aside0.mk (lnT_ok hb h3).1
  obtain ⟨⟨z1, z2, z3⟩, hz⟩ : ∃ r, caseO (l0.map toF) u = r := ⟨_, rfl⟩
  have HZ := Aside0.mk hz
  have HZL := Aside0.mk (show z1.length ≤ 1000000 by have := case_short (caseO_ok (l0.map toF) u (by omega)); rwa [hz] at this)
  obtain ⟨sb, hsb⟩ : ∃ sb, bs (lnT T2) = sb := ⟨_, rfl⟩
  have HSB := Aside0.mk hsb
  obtain ⟨⟨o1, o2, o3⟩, ho⟩ : ∃ r, caseO (l0.map toF) sb = r := ⟨_, rfl⟩
  have hpb := case_apart (d := l0.map toF) hb h3
  rw [hsb, ho, hz] at hpb
  obtain ⟨ec, ed⟩ := hpb
  have ec' : o1 = z1 := ec
  have ed' : o2 = z2 := ed
  rw [ec', ed'] at ho
  have HO := Aside0.mk ho
  clear hl2 hr2 hz hsb ho ec ed ec' ed' hb
  clear hF h2 h3
  go_enter Tryd.func7, Tryd.ntmps7
  go_upto_region 1 with (first | ((with_reducible refine gate_dst (N := 3) rfl ?_); (try (refine gate_guard (by rfl) ?_; dsimp only)); refine box_event ?hg (N := 3) ?hd (cs := #[.slice A l0.length c]) (t := 24) ?hr ?_; (case hd => rfl); (case hg => rfl); (case hr => first | (go_simp; done) | (go_simp; rfl)); intro bx hg_bx wbx hbox hb; have BK_bx := Aside0.mk hbox; have HB_bx := Aside0.mk hb; have GE_bx := Aside0.mk (Nat.le_of_eq hg_bx.symm); clear hbox hb hg_bx))
  refine at_world (F := fun w' => Bx W bx A l0.length c w') ⟨BK_bx.out, HB_bx.out⟩ ?_
  clear BK_bx HB_bx GE_bx
  intro w0 p_
  have X0 := Aside0.mk p_
  clear p_
  have xc0 := X0.out.cell
  go_upto_region 2 with (first | (go_at_call 8; ((with_reducible refine (head_in HT.out X0.out.wb).mono ?_)); rintro e_ wz1 ⟨rfl, hb_⟩; have X1 := Aside0.mk (X0.out.below hb_); have HB1 := Aside0.mk hb_; have xc1 := X1.out.cell; clear hb_))
  go_upto_region 4 with (first | (go_at_call 9; ((with_reducible refine (few_0 HD.out X1.out true HBF.out).mono ?_)); rintro e_ wz2 ⟨rfl, hb_⟩; have X2 := Aside0.mk (X1.out.below hb_); have HB2 := Aside0.mk hb_; have xc2 := X2.out.cell; clear hb_))
  refine at_world (F := fun w' => Bx W bx A l0.length c w') X2.out ?_
  clear X0 xc0 X1 xc1 X2 xc2 HB1 HB2 h2s h2s' h2u h2u'
  intro w2 p_
  have X2 := Aside0.mk p_
  clear p_
  have xc2 := X2.out.cell
  go_upto_region 6 with (first | (go_at_call 21; ((with_reducible refine (lex_in s r1 x1 a1 HL1.out _).mono ?_)); rintro e_ wz3 ⟨v8, rfl, hv_, hb_⟩; have X3 := Aside0.mk (X2.out.below hb_); have HB3 := Aside0.mk hb_; have xc3 := X3.out.cell; have L1_ := Aside0.mk hv_; clear hv_; clear hb_) | (go_at_call 21; ((with_reducible refine (lex_in u r2 x2 a2 HL2.out _).mono ?_)); rintro e_ wz4 ⟨v11, rfl, hv_, hb_⟩; have X4 := Aside0.mk (X3.out.below hb_); have HB4 := Aside0.mk hb_; have xc4 := X4.out.cell; have L2_ := Aside0.mk hv_; clear hv_; clear hb_))
  obtain ⟨g8, L1⟩ : ∃ g, Aside0 (Kd.R k77 77 wz3 g (fun _ => True) v8 r1) := ⟨_, L1_⟩
  obtain ⟨g11, L2⟩ : ∃ g, Aside0 (Kd.R k77 77 wz4 g (fun _ => True) v11 r2) := ⟨_, L2_⟩
  refine at_world (F := fun w' => Bx W bx A l0.length c w' ∧ Kd.R k77 77 w' g8 (fun _ => True) v8 r1 ∧ Kd.R k77 77 w' g11 (fun _ => True) v11 r2) ⟨X4.out, Kd.R_below L1.out HB4.out, L2.out⟩ ?_
  clear X2 xc2 X3 xc3 X4 xc4 HB3 HB4 L1_ L2_ L1 L2
  rintro w5 ⟨p_, q_, r_⟩
  have X5 := Aside0.mk p_
  have L1 := Aside0.mk q_
  have L2 := Aside0.mk r_
  clear p_ q_ r_
  have xc5 := X5.out.cell
  go_upto_region 11 with (fail)
  refine at_world (F := fun w' => Bx W bx A l0.length c w' ∧ Kd.R k77 77 w' g11 (fun _ => True) v11 r2) ⟨X5.out, L2.out⟩ ?_
  clear X5 xc5 L1 L2
  rintro w12 ⟨p_, q_⟩
  have X12 := Aside0.mk p_
  have L2 := Aside0.mk q_
  clear p_ q_
  have xc12 := X12.out.cell
  have hr2 := HR2.out
  subst hr2
  subst hx2
  go_upto_region 14 with (first | (go_at_call 15; ((with_reducible refine (case_in' HD.out HSM.out X12.out u z1 z2 z3 HZ.out).mono ?_)); rintro e_ wz13 ⟨v20, rfl, hv_, hb_⟩; have X13 := Aside0.mk (X12.out.below hb_); have HB13 := Aside0.mk hb_; have xc13 := X13.out.cell; have V20_ := Aside0.mk hv_; clear hv_; clear hb_))
  obtain ⟨g20, V20⟩ : ∃ g, Aside0 (Kd.R (Kd.int .i64) 3 wz13 g (fun _ => True) v20 z1) := ⟨_, V20_⟩
  have G13 := Aside0.mk (show GpW W bx A l0.length c g11 g20 v11 v20 (T2.map toS) z1 wz13 from ⟨X13.out, Kd.R_below L2.out HB13.out, V20.out⟩)
  clear X12 xc12 X13 HB13 V20_ V20 L2
  refine start_ (n := 11) (S := fun w' => w'.cell? ⟨bx, 0, none⟩ = some (.slice A l0.length c)) (ds := []) #[false, false, false, false, false, false, false, false, false, false, false] (by kernel_rfl) rfl rfl xc13 (fun hHeld => ?_)
  obtain ⟨wd, hwd⟩ : ∃ wd, wz13.drew = wd := ⟨_, rfl⟩
  have Gd := Aside0.mk (show GpW W bx A l0.length c g11 g20 v11 v20 (T2.map toS) z1 wd by rw [← hwd]; exact G13.out.below (below_drew1 (Below.refl _ _)))
  rw [hwd] at hHeld ⊢
  clear hwd xc13 G13
  refine take_ (i := 0) (N := some 88) (v := ?_) (a' := ?_) #[true, false, false, false, false, false, false, false, false, false, false] rfl rfl (by kernel_rfl) (fun _ _ _ h => h) (Or.inl ⟨by rfl, ?_⟩) hHeld ?_ ?_
  rotate_left
  · rintro w' s0
    go_simp
    with_reducible rfl
  rotate_left
  · simp only [Act.put, List.setIfInBounds_toArray, List.set_cons_zero, List.set_cons_succ, i64_w, i32_w]
    rfl
  refine pure_ (i := 1) (N := some 89) (v := ?_) (a' := ?_) #[true, true, false, false, false, false, false, false, false, false, false] rfl rfl (by kernel_rfl) (fun _ _ _ h => h) (Or.inl ⟨by rfl, ?_⟩) ?_ ?_
  rotate_left
  · intro w'
    go_simp
    with_reducible rfl
  rotate_left
  · simp only [Act.put, List.setIfInBounds_toArray, List.set_cons_zero, List.set_cons_succ, i64_w, i32_w]
    rfl
  refine one_ (i := 2) (N := some 90) #[true, true, true, false, false, false, false, false, false, false, false] rfl rfl (by kernel_rfl) (by decide) (fun K hK => ?_)
  refine goes_ Tryd.func22 (by kernel_rfl) rfl #[v11] (by rfl) rfl rfl (by (try simp only [List.map_toArray, List.map_cons, List.map_nil]); first | done | rfl) ?_
  refine (apart_any Gd.out.2.1 HLL2.out sb HSB.out).mono ?_
  rintro e_ wi ⟨rfl, bi⟩
  refine ⟨_, rfl, ?_⟩
  have Gi := Aside0.mk (Gd.out.below bi)
  refine hK.out _ _ Gi.out.1.cell (fun hHeld => ?_)
  clear hK K bi Gd
  refine norm_ (a' := ?_) ?_ ?_
  rotate_left
  · show Act.put _ (some 90) _ = _
    simp only [Act.put, List.setIfInBounds_toArray, List.set_cons_zero, List.set_cons_succ, i64_w, i32_w]
    rfl
  refine one_ (i := 3) (N := some 91) #[true, true, true, true, false, false, false, false, false, false, false] rfl rfl (by kernel_rfl) (by decide) (fun K hK => ?_)
  refine goes_ Tryd.func15 (by kernel_rfl) rfl #[.agg #[.slice A l0.length c], .string sb] (by rfl) rfl rfl (by (try simp only [List.map_toArray, List.map_cons, List.map_nil]); first | done | rfl) ?_
  refine (case_in' HD.out HSM.out Gi.out.1 sb z1 z2 o3 HO.out).mono ?_
  rintro e_ wj ⟨v23, rfl, hv_, bj⟩
  refine ⟨_, rfl, ?_⟩
  have Gj := Aside0.mk (Gi.out.below bj)
  have V23 := Aside0.mk hv_
  refine hK.out _ _ Gj.out.1.cell (fun hHeld => ?_)
  clear hK K bj Gi hv_
  refine norm_ (a' := ?_) ?_ ?_
  rotate_left
  · show Act.put _ (some 91) _ = _
    simp only [Act.put, List.setIfInBounds_toArray, List.set_cons_zero, List.set_cons_succ, i64_w, i32_w]
    rfl
  refine pure_ (i := 4) (N := some 87) (v := ?_) (a' := ?_) #[true, true, true, true, true, false, false, false, false, false, false] rfl rfl (by kernel_rfl) (fun _ _ _ h => h) (Or.inl ⟨by rfl, ?_⟩) ?_ ?_
  rotate_left
  · intro w'
    go_simp
    with_reducible rfl
  rotate_left
  · simp only [Act.put, List.setIfInBounds_toArray, List.set_cons_zero, List.set_cons_succ, i64_w, i32_w]
    rfl
  refine pure_ (i := 5) (N := some 92) (v := ?_) (a' := ?_) #[true, true, true, true, true, true, false, false, false, false, false] rfl rfl (by kernel_rfl) (fun _ _ _ h => h) (Or.inl ⟨by rfl, ?_⟩) ?_ ?_
  rotate_left
  · intro w'
    go_simp
    with_reducible rfl
  rotate_left
  · simp only [Act.put, List.setIfInBounds_toArray, List.set_cons_zero, List.set_cons_succ, i64_w, i32_w]
    rfl
  refine pure_ (i := 6) (N := some 93) (v := ?_) (a' := ?_) #[true, true, true, true, true, true, true, false, false, false, false] rfl rfl (by kernel_rfl) (fun _ _ _ h => h) (Or.inl ⟨by rfl, ?_⟩) ?_ ?_
  rotate_left
  · intro w'
    go_simp
    with_reducible rfl
  rotate_left
  · simp only [Act.put, List.setIfInBounds_toArray, List.set_cons_zero, List.set_cons_succ, i64_w, i32_w]
    rfl
  refine pure_ (i := 7) (N := some 94) (v := ?_) (a' := ?_) #[true, true, true, true, true, true, true, true, false, false, false] rfl rfl (by kernel_rfl) (fun _ _ _ h => h) (Or.inl ⟨by rfl, ?_⟩) ?_ ?_
  rotate_left
  · intro w'
    go_simp
    with_reducible rfl
  rotate_left
  · simp only [Act.put, List.setIfInBounds_toArray, List.set_cons_zero, List.set_cons_succ, i64_w, i32_w]
    rfl
  refine pure_ (i := 8) (N := some 23) (v := ?_) (a' := ?_) #[true, true, true, true, true, true, true, true, true, false, false] rfl rfl (by kernel_rfl) (fun _ _ _ h => h) (Or.inl ⟨by rfl, ?_⟩) ?_ ?_
  rotate_left
  · intro w'
    go_simp
    with_reducible rfl
  rotate_left
  · simp only [Act.put, List.setIfInBounds_toArray, List.set_cons_zero, List.set_cons_succ, i64_w, i32_w]
    rfl
  refine pure_ (i := 9) (N := some 24) (v := ?_) (a' := ?_) #[true, true, true, true, true, true, true, true, true, true, false] rfl rfl (by kernel_rfl) (fun _ _ _ h => h) (Or.inl ⟨by rfl, ?_⟩) ?_ ?_
  rotate_left
  · intro w'
    go_simp
    with_reducible rfl
  rotate_left
  · simp only [Act.put, List.setIfInBounds_toArray, List.set_cons_zero, List.set_cons_succ, i64_w, i32_w]
    rfl
  refine pure_ (i := 10) (N := some 25) (v := ?_) (a' := ?_) #[true, true, true, true, true, true, true, true, true, true, true] rfl rfl (by kernel_rfl) (fun _ _ _ h => h) (Or.inl ⟨by rfl, ?_⟩) ?_ ?_
  rotate_left
  · intro w'
    go_simp
    with_reducible rfl
  rotate_left
  · simp only [Act.put, List.setIfInBounds_toArray, List.set_cons_zero, List.set_cons_succ, i64_w, i32_w]
    rfl
  refine done_ (by kernel_rfl) ?_
  have HLM := Aside0.mk (show z1.length ≤ 1000000000000000000 by have := HZL.out; omega)
  have hzz : (z2 == z2) = true := by rw [beq_iff_eq]
  go_wp2_with (first | (go_at_call 17; ((with_reducible refine (equal_R Gj.out.ints V23.out HLM.out true (decide_eq_true rfl)).mono ?_)); rintro e_ wk ⟨rfl, hb_⟩; have XK := Aside0.mk (Gj.out.bx.below hb_); clear hb_))
  go_ret
  exact ⟨rfl, XK.out.wb⟩
set_option maxHeartbeats 64000000 in
set_option maxRecDepth 100000 in
theorem gaps_11 (A : Option Addr) (c : Nat) (l0 : List S42) (s u : ByteArray) (W : World) (hd : DomIn W A c l0) (ht : Tab W) (hF : fewB l0 = true) (h2 : s.size ≤ 2000) (h3 : u.size ≤ 2000) {e1 p1 j1 : Nat} (ha : LexErr 0 (byts s) e1 p1 j1) {e2 p2 j2 : Nat} (hb : LexErr 0 (byts u) e2 p2 j2)  :
    Calls Tryd.prog 7 #[.agg #[.slice A l0.length c], .string s, .string u] W fun e w' => e = .returned (.bool true) ∧ Below W.heap.size W w' := by
  have HD := Aside0.mk hd
  have HT := Aside0.mk ht
  clear hd ht
  have HBF := Aside0.mk hF
  have HSM := Aside0.mk (few_small hF).1
  have h2s : decide ((2000 : Int) < (s.size : Int)) = false := decide_eq_false (by omega)
  have h2s' : decide (2000 < s.size) = false := decide_eq_false (by omega)
  have h2u : decide ((2000 : Int) < (u.size : Int)) = false := decide_eq_false (by omega)
  have h2u' : decide (2000 < u.size) = false := decide_eq_false (by omega)
  obtain ⟨r1, x1, a1, hx1, hl1⟩ : ∃ (r1 : List S77) (x1 a1 : Int), x1 ≠ 0 ∧ lexT s = (r1, x1, a1) := ⟨_, _, _, by have := lexErr_two ha; omega, lexT_bad ha (by omega)⟩
  have HL1 := Aside0.mk hl1
  have hf1 : (x1 == 0) = false := by rw [beq_eq_false_iff_ne]; exact hx1
  clear hl1 ha
  obtain ⟨r2, x2, a2, hx2, hl2⟩ : ∃ (r2 : List S77) (x2 a2 : Int), x2 ≠ 0 ∧ lexT u = (r2, x2, a2) := ⟨_, _, _, by have := lexErr_two hb; omega, lexT_bad hb (by omega)⟩
  have HL2 := Aside0.mk hl2
  have hf2 : (x2 != 0) = true := by rw [bne_iff_ne]; exact hx2
  clear hl2 hb
  clear hF h2 h3
  go_enter Tryd.func7, Tryd.ntmps7
  go_upto_region 1 with (first | ((with_reducible refine gate_dst (N := 3) rfl ?_); (try (refine gate_guard (by rfl) ?_; dsimp only)); refine box_event ?hg (N := 3) ?hd (cs := #[.slice A l0.length c]) (t := 24) ?hr ?_; (case hd => rfl); (case hg => rfl); (case hr => first | (go_simp; done) | (go_simp; rfl)); intro bx hg_bx wbx hbox hb; have BK_bx := Aside0.mk hbox; have HB_bx := Aside0.mk hb; have GE_bx := Aside0.mk (Nat.le_of_eq hg_bx.symm); clear hbox hb hg_bx))
  refine at_world (F := fun w' => Bx W bx A l0.length c w') ⟨BK_bx.out, HB_bx.out⟩ ?_
  clear BK_bx HB_bx GE_bx
  intro w0 p_
  have X0 := Aside0.mk p_
  clear p_
  have xc0 := X0.out.cell
  go_upto_region 2 with (first | (go_at_call 8; ((with_reducible refine (head_in HT.out X0.out.wb).mono ?_)); rintro e_ wz1 ⟨rfl, hb_⟩; have X1 := Aside0.mk (X0.out.below hb_); have HB1 := Aside0.mk hb_; have xc1 := X1.out.cell; clear hb_))
  go_upto_region 4 with (first | (go_at_call 9; ((with_reducible refine (few_0 HD.out X1.out true HBF.out).mono ?_)); rintro e_ wz2 ⟨rfl, hb_⟩; have X2 := Aside0.mk (X1.out.below hb_); have HB2 := Aside0.mk hb_; have xc2 := X2.out.cell; clear hb_))
  refine at_world (F := fun w' => Bx W bx A l0.length c w') X2.out ?_
  clear X0 xc0 X1 xc1 X2 xc2 HB1 HB2 h2s h2s' h2u h2u'
  intro w2 p_
  have X2 := Aside0.mk p_
  clear p_
  have xc2 := X2.out.cell
  go_upto_region 6 with (first | (go_at_call 21; ((with_reducible refine (lex_in s r1 x1 a1 HL1.out _).mono ?_)); rintro e_ wz3 ⟨v8, rfl, hv_, hb_⟩; have X3 := Aside0.mk (X2.out.below hb_); have HB3 := Aside0.mk hb_; have xc3 := X3.out.cell; have L1_ := Aside0.mk hv_; clear hv_; clear hb_) | (go_at_call 21; ((with_reducible refine (lex_in u r2 x2 a2 HL2.out _).mono ?_)); rintro e_ wz4 ⟨v11, rfl, hv_, hb_⟩; have X4 := Aside0.mk (X3.out.below hb_); have HB4 := Aside0.mk hb_; have xc4 := X4.out.cell; have L2_ := Aside0.mk hv_; clear hv_; clear hb_))
  obtain ⟨g8, L1⟩ : ∃ g, Aside0 (Kd.R k77 77 wz3 g (fun _ => True) v8 r1) := ⟨_, L1_⟩
  obtain ⟨g11, L2⟩ : ∃ g, Aside0 (Kd.R k77 77 wz4 g (fun _ => True) v11 r2) := ⟨_, L2_⟩
  refine at_world (F := fun w' => Bx W bx A l0.length c w' ∧ Kd.R k77 77 w' g8 (fun _ => True) v8 r1 ∧ Kd.R k77 77 w' g11 (fun _ => True) v11 r2) ⟨X4.out, Kd.R_below L1.out HB4.out, L2.out⟩ ?_
  clear X2 xc2 X3 xc3 X4 xc4 HB3 HB4 L1_ L2_ L1 L2
  rintro w5 ⟨p_, q_, r_⟩
  have X5 := Aside0.mk p_
  have L1 := Aside0.mk q_
  have L2 := Aside0.mk r_
  clear p_ q_ r_
  have xc5 := X5.out.cell
  go_upto_region 11 with (fail)
  refine at_world (F := fun w' => Bx W bx A l0.length c w' ∧ Kd.R k77 77 w' g11 (fun _ => True) v11 r2) ⟨X5.out, L2.out⟩ ?_
  clear X5 xc5 L1 L2
  rintro w12 ⟨p_, q_⟩
  have X12 := Aside0.mk p_
  have L2 := Aside0.mk q_
  clear p_ q_
  have xc12 := X12.out.cell
  go_wp2
  go_ret
  exact ⟨rfl, X12.out.wb⟩
theorem gaps_any (A : Option Addr) (c : Nat) (l0 : List S42) (s u : ByteArray) (W : World) (hd : DomIn W A c l0) (ht : Tab W) :
    Calls Tryd.prog 7 #[.agg #[.slice A l0.length c], .string s, .string u] W fun e w' => e = .returned (.bool true) ∧ Below W.heap.size W w' := by
  by_cases hE : fewB l0 = true ∧ s.size ≤ 2000 ∧ u.size ≤ 2000
  · obtain ⟨hF, h2, h3⟩ := hE
    rcases lexT_cases s (by omega) with ⟨T1, ha, _⟩ | ⟨e1, p1, j1, ha, _, _⟩
    · rcases lexT_cases u (by omega) with ⟨T2, hb, _⟩ | ⟨e2, p2, j2, hb, _, _⟩
      · exact gaps_00 A c l0 s u W hd ht hF h2 h3 ha hb
      · exact gaps_01 A c l0 s u W hd ht hF h2 h3 ha hb
    · rcases lexT_cases u (by omega) with ⟨T2, hb, _⟩ | ⟨e2, p2, j2, hb, _, _⟩
      · exact gaps_10 A c l0 s u W hd ht hF h2 h3 ha hb
      · exact gaps_11 A c l0 s u W hd ht hF h2 h3 ha hb
  · exact gaps_early A c l0 s u W hd ht hE
end Go.Proofs.YtgddmfphlhlcjaaDoor.FcW
