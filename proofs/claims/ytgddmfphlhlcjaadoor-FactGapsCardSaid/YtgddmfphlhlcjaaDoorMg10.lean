/- fact.Parse: what holds at each round of its loop. -/
import Derived.Test.YtgddmfphlhlcjaaDoorMg9
namespace Go.Proofs.YtgddmfphlhlcjaaDoor.FcW
open Go.RowKit Go.Proofs.YtgddmfphlhlcjaaDoorW.PrintWords Go.Proofs.YtgddmfphlhlcjaaDoorW.PrintLast Go.Proofs.YtgddmfphlhlcjaaDoorW.PrintMore
open Go.Proofs.YtgddmfphlhlcjaaDoor Go.Proofs.YtgddmfphlhlcjaaDoor.PF Go.Proofs.YtgddmfphlhlcjaaDoor.LxP Go.Proofs.YtgddmfphlhlcjaaDoor.LxW Go.Proofs.YtgddmfphlhlcjaaDoor.FcP
set_option linter.unusedVariables false
set_option linter.unusedSimpArgs false

def ofF (f : Fc) : S42 := ⟨bs f.name, f.kind, f.lo, f.hi⟩
theorem toF_ofF (d : List Fc) : (d.map ofF).map toF = d := by
  rw [List.map_map]
  have : (toF ∘ ofF) = id := by
    funext f
    show (⟨byts (bs f.name), f.kind, f.lo, f.hi⟩ : Fc) = f
    rw [byts_bs f.name]
  rw [this, List.map_id]
theorem idx_from (x : ByteArray) : ∀ (l : List S42) (j : Nat), idxFrom x j l = match FcP.index (l.map toF) (byts x) with | some i => ((i + j : Nat) : Int) | none => -1
  | [], j => rfl
  | f :: l, j => by
    have ih := idx_from x l (j + 1)
    unfold FcP.index at ih ⊢
    rw [List.map_cons, List.findIdx?_cons]
    simp only [idxFrom]
    have e : (f.f0.toList == x.toList) = ((toF f).name == byts x) := by rw [ByteArray.toList_eq, ByteArray.toList_eq]; rfl
    rw [e]
    by_cases h : ((toF f).name == byts x) = true
    · rw [if_pos h, if_pos h]
      simp
    · rw [if_neg h, if_neg h, ih]
      cases (l.map toF).findIdx? (fun f => f.name == byts x) with
      | none => rfl
      | some i =>
        show ((i + (j + 1) : Nat) : Int) = ((i + 1 + j : Nat) : Int)
        omega
theorem idx_is (x : ByteArray) (d : List Fc) : decide (0 ≤ idxFrom x 0 (d.map ofF)) = (FcP.index d (byts x)).isSome := by
  rw [idx_from, toF_ofF]
  cases FcP.index d (byts x) with
  | none => rfl
  | some i => simp

theorem goesP_ {P : Program} {ops : Array Oper} {Q : Exit → Act → World → Prop} {oi : Oper} {N : Option Tmp} {a : Act} {w : World} {K : Act → World → Prop} {f : FuncId} {fn : Func} {asg : Array Operand} {ts : Array TypeId} (hf : P.funcs[f]? = some fn) (hname : (fn.name == "runtime.NumGoroutine") = false) (hb : fn.body.isSome = true) (args : Array Value)
    (hw : Region.wanted oi (yielded ops a.tmps) = true) (hop : oi.op = .call { callee := .value (.func f), args := asg, argTypes := ts }) (hargs : asg.map a.eval = args)
    (h : Calls P f args w fun e w' => ∃ ch, e = .panicked ch ∧ Q (.panic ch) a w') : if Region.wanted oi (yielded ops a.tmps) = true then Oper.wp P oi a w K Q else K (a.put N undef) w := by
  rw [if_pos hw]
  have he := enters_ hf hname hb args w
  have hrun : (execOp a.eval oi).run P w = .ok (.enter f args) w := by
    unfold execOp
    simp [hop, resolve, Deferred.ofValue, invoke, Act.eval, hargs, he]
  unfold Oper.wp
  rw [hrun, Oper.upon_enter]
  refine h.mono fun e w'' hh => ?_
  obtain ⟨ch, rfl, hk⟩ := hh
  exact hk

theorem index_d {base : Nat} {ok : Nat → Prop} {A : Option Addr} {c : Nat} {d : List Fc} {w : World} (h : Kd.R k42 42 w base ok (.slice A d.length c) (d.map ofF)) (n : ByteArray) (hl : d.length ≤ 1000000) :
    Calls Tryd.prog 36 #[.agg #[.slice A d.length c], .string n] w fun e w' => e = .returned (.int .i64 (idxFrom n 0 (d.map ofF))) ∧ Below w.heap.size w w' := by
  have e : d.length = (d.map ofF).length := (List.length_map ..).symm
  have h' := h
  rw [e] at h' ⊢
  exact index_any A c (d.map ofF) n w (Kd.R_reads' h').2.2 (by rw [← e]; omega)
theorem take_mem {T : Ts} {i k : Nat} {x : List UInt8} {en : Nat} {t : Nat × Tk} {r : Ts} (h : take k x en (T.drop i) = .ok (t, r)) : t ∈ T := by
  cases hd : T.drop i with
  | nil => rw [hd] at h; cases h
  | cons t' r' =>
    rw [hd] at h
    simp only [take] at h
    split at h
    · cases h
    · injection h with h
      injection h with e1 e2
      subst e1
      exact List.mem_of_mem_drop (i := i) (by rw [hd]; exact List.mem_cons_self ..)
theorem bs_size (l : List UInt8) : (bs l).size = l.length := by rw [← byts_length]; rfl
theorem span_next {T : Ts} {i en : Nat} {lh : Nat × Nat} {r : Ts} (h : spanS en (T.drop i) = .ok (lh, r)) : r = T.drop (i + 3) ∧ i + 3 ≤ T.length := by
  unfold spanS at h
  cases h1 : take 2 [] en (T.drop i) with
  | error p => rw [h1] at h; cases h
  | ok p =>
    obtain ⟨t, r1⟩ := p
    obtain ⟨rfl, g1⟩ := take_next h1
    rw [h1] at h
    change (if _ then _ else _) = _ at h
    split at h
    · cases h
    · change (take 1 toW en (T.drop (i + 1))).bind _ = _ at h
      cases h2 : take 1 toW en (T.drop (i + 1)) with
      | error p => rw [h2] at h; cases h
      | ok p =>
        obtain ⟨u, r2⟩ := p
        obtain ⟨rfl, g2⟩ := take_next h2
        rw [h2] at h
        change (take 2 [] en (T.drop (i + 2))).bind _ = _ at h
        cases h3 : take 2 [] en (T.drop (i + 2)) with
        | error p => rw [h3] at h; cases h
        | ok p =>
          obtain ⟨v, r3⟩ := p
          obtain ⟨rfl, g3⟩ := take_next h3
          rw [h3] at h
          change (if _ then _ else _) = _ at h
          split at h
          · cases h
          · injection h with h
            injection h with e1 e2
            exact ⟨e2.symm, g3⟩
theorem parse_err {en kf : Nat} {d : List Fc} {T : Ts} {i : Nat} {p : Nat × Nat} (hE : (T.drop i).length ≤ kf ∧ parseN en kf d (T.drop i) = parse en T) (hi : i < T.length) (hf : factS en d (T.drop i) = .error p) : parse en T = .error p := by
  obtain ⟨hl, hE⟩ := hE
  rw [← hE]
  rw [List.drop_eq_getElem_cons hi] at hf hl ⊢
  obtain ⟨kf, rfl⟩ : ∃ m, kf = m + 1 := ⟨kf - 1, by simp only [List.length_cons] at hl; omega⟩
  simp only [parseN]
  rw [hf]
  rfl
theorem parse_step {en kf : Nat} {d : List Fc} {T : Ts} {i j : Nat} {f : Fc} (hE : (T.drop i).length ≤ kf ∧ parseN en kf d (T.drop i) = parse en T) (hi : i < T.length) (hij : i < j) (hf : factS en d (T.drop i) = .ok (f, T.drop j)) : ∃ kf', (T.drop j).length ≤ kf' ∧ parseN en kf' (d ++ [f]) (T.drop j) = parse en T := by
  obtain ⟨hl, hE⟩ := hE
  have hle : (T.drop j).length + 1 ≤ (T.drop i).length := by rw [List.length_drop, List.length_drop]; omega
  obtain ⟨kf, rfl⟩ : ∃ m, kf = m + 1 := ⟨kf - 1, by omega⟩
  refine ⟨kf, by omega, ?_⟩
  rw [← hE]
  rw [List.drop_eq_getElem_cons hi] at hf ⊢
  simp only [parseN]
  rw [hf]
  rfl
/-- Which blocks are which. -/
def St (w : World) (bd be ba g m1 m2 : Nat) : Prop := w.heap.size ≤ bd ∧ bd < be ∧ be < ba ∧ ba < g ∧ g < m1 ∧ m1 < m2
def okD (bd be ba g x : Nat) (k : Nat) : Prop := k ≠ g ∧ k ≠ bd ∧ k ≠ be ∧ k ≠ ba ∧ k ≠ x
/-- What holds at each round. -/
def PI (w wr : World) (bd be ba g m1 m2 x : Nat) (A : Option Addr) (c : Nat) (T : Ts) (i en base : Nat) (vd : Value) (d : List Fc) : Prop :=
  TkAt wr g A c (T.map toS) i en base ∧ Res wr bd be ba 24 vd 0 0 ∧ Kd.R k42 42 wr w.heap.size (okD bd be ba g x) vd (d.map ofF) ∧ Kinds wr m1 ∧ Ways wr m2 g ∧ Below w.heap.size w wr
/-- A map beside the reader is written: its block is newer than the reader's tokens. -/
theorem tk_old {w0 w' : World} {g m : Nat} {A : Option Addr} {c : Nat} {ts : List S77} {i en base : Nat} (h : TkAt w0 g A c ts i en base) (hm : w0.heap.size ≤ m) (hb : ∀ k, k < w0.heap.size → w'.heap[k]? = w0.heap[k]?) : TkAt w' g A c ts i en base := by
  refine ⟨(hb g (blk_lt h.1)).trans h.1, Kd.R_step h.2 (fun k _ hk => hb k hk)⟩
theorem PI.below {w wr w' : World} {bd be ba g m1 m2 x : Nat} {A : Option Addr} {c : Nat} {T : Ts} {i en base : Nat} {vd : Value} {d : List Fc} (h : PI w wr bd be ba g m1 m2 x A c T i en base vd d) (hb : Below wr.heap.size wr w') : PI w w' bd be ba g m1 m2 x A c T i en base vd d :=
  ⟨h.1.below hb, h.2.1.below hb, Kd.R_below h.2.2.1 hb, ownsMap_below h.2.2.2.1 hb, ownsMap_below h.2.2.2.2.1 hb, below_step h.2.2.2.2.2 hb⟩
theorem PI.took {w wr w' : World} {bd be ba g m1 m2 x : Nat} {A : Option Addr} {c : Nat} {T : Ts} {i j en base : Nat} {vd : Value} {d : List Fc} (h : PI w wr bd be ba g m1 m2 x A c T i en base vd d) (hs : St w bd be ba g m1 m2) (tk : TkAt w' g A c (T.map toS) j en base) (hg : wr.grownBy w' (some g)) : PI w w' bd be ba g m1 m2 x A c T j en base vd d := by
  obtain ⟨s1, s2, s3, s4, s5, s6⟩ := hs
  refine ⟨tk, h.2.1.grown hg (by omega) (by omega) (by omega), Kd.R_grown h.2.2.1 hg (fun k hk e => hk.1 (Option.some.inj e)), h.2.2.2.1.kept hg (fun e => ?_), h.2.2.2.2.1.kept hg (fun e => ?_), h.2.2.2.2.2.grown hg h.2.2.2.2.2.size (fun k hk => ?_)⟩
  · have := Option.some.inj e; omega
  · have := Option.some.inj e; omega
  · have := Option.some.inj hk; omega
theorem PI.res {w wr : World} {bd be ba g m1 m2 x : Nat} {A : Option Addr} {c : Nat} {T : Ts} {i en base : Nat} {vd : Value} {d : List Fc} (h : PI w wr bd be ba g m1 m2 x A c T i en base vd d) : ∃ A n c, vd = .slice A n c := by
  obtain ⟨A, c, e⟩ := Kd.R_slice h.2.2.1
  exact ⟨A, _, c, e⟩
theorem PI.mark {w wr w' : World} {bd be ba g m1 m2 x b : Nat} {A : Option Addr} {c : Nat} {T : Ts} {i en base : Nat} {vd : Value} {d : List Fc} (h : PI w wr bd be ba g m1 m2 x A c T i en base vd d) (hb : Below wr.heap.size wr w') (hx : wr.heap.size ≤ b) : PI w w' bd be ba g m1 m2 b A c T i en base vd d :=
  ⟨h.1.below hb, h.2.1.below hb, Kd.R_mono (Kd.R_below (Kd.R_bound h.2.2.1) hb) (fun k hk => ⟨hk.1.1, hk.1.2.1, hk.1.2.2.1, hk.1.2.2.2.1, by have := hk.2.2.1; omega⟩), ownsMap_below h.2.2.2.1 hb, ownsMap_below h.2.2.2.2.1 hb, below_step h.2.2.2.2.2 hb⟩
theorem PI.unmark {w wr : World} {bd be ba g m1 m2 x : Nat} {A : Option Addr} {c : Nat} {T : Ts} {i en base : Nat} {vd : Value} {d : List Fc} (h : PI w wr bd be ba g m1 m2 x A c T i en base vd d) : PI w wr bd be ba g m1 m2 g A c T i en base vd d :=
  ⟨h.1, h.2.1, Kd.R_mono h.2.2.1 (fun k hk => ⟨hk.1, hk.2.1, hk.2.2.1, hk.2.2.2.1, hk.1⟩), h.2.2.2⟩
/-- The new fact's cells are written. -/
theorem PI.setx {w wr : World} {bd be ba g m1 m2 x : Nat} {A : Option Addr} {c : Nat} {T : Ts} {i en base : Nat} {vd : Value} {d : List Fc} (h : PI w wr bd be ba g m1 m2 x A c T i en base vd d) {cs : Array Value} (hx : wr.heap[x]? = some (.cells cs 42 (0, 0))) (hw : w.heap.size ≤ x) (n : x ≠ g ∧ x ≠ bd ∧ x ≠ be ∧ x ≠ ba ∧ x ≠ m1 ∧ x ≠ m2) (j : Nat) (u : Value) : PI w (wr.setCell ⟨x, j, none⟩ u) bd be ba g m1 m2 x A c T i en base vd d := by
  obtain ⟨n1, n2, n3, n4, n5, n6⟩ := n
  have hg : wr.grownBy (wr.setCell ⟨x, j, none⟩ u) (some x) := grown_set (grown_of_below (Below.refl _ _) (some x)) j u
  exact ⟨⟨blk_far h.1.1 (p := ⟨x, j, none⟩) (fun e => n1 e.symm) u, Kd.R_set h.1.2 hx (by decide) j u⟩,
    ⟨blk_far h.2.1.1 (p := ⟨x, j, none⟩) (fun e => n2 e.symm) u, blk_far h.2.1.2.1 (p := ⟨x, j, none⟩) (fun e => n3 e.symm) u, blk_far h.2.1.2.2 (p := ⟨x, j, none⟩) (fun e => n4 e.symm) u⟩,
    Kd.R_far h.2.2.1 (p := ⟨x, j, none⟩) (fun k hk => hk.2.2.2.2) u, h.2.2.2.1.kept hg (fun e => n5 (Option.some.inj e).symm), h.2.2.2.2.1.kept hg (fun e => n6 (Option.some.inj e).symm), below_set h.2.2.2.2.2 hw⟩
theorem span_bad {T : Ts} {i en e a : Nat} (h : spanS en (T.drop i) = .error (e, a)) (hi : i ≤ T.length) (g : Nat) (A : Option Addr) (c base : Nat) (w : World) (hg : TkAt w g A c (T.map toS) i en base) :
    Calls Tryd.prog 33 #[.pointer (some ⟨g, 0, none⟩)] w fun e' w' => e' = .panicked [{ v := .iface 93 (.agg #[.int .i64 e, .int .i64 a]), recovered := false }] ∧ w.grownBy w' (some g) :=
  (span_any T i hi g A c en base w hg).mono fun e' w' hs => by
    unfold SpanSays at hs
    rw [h] at hs
    exact hs
theorem span_good {T : Ts} {i en lo hi_ : Nat} {r : Ts} (h : spanS en (T.drop i) = .ok ((lo, hi_), r)) (hi : i ≤ T.length) (g : Nat) (A : Option Addr) (c base : Nat) (w : World) (hg : TkAt w g A c (T.map toS) i en base) :
    Calls Tryd.prog 33 #[.pointer (some ⟨g, 0, none⟩)] w fun e' w' => e' = .returned (.tuple #[.int .i64 lo, .int .i64 hi_]) ∧ TkAt w' g A c (T.map toS) (i + 3) en base ∧ w.grownBy w' (some g) :=
  (span_any T i hi g A c en base w hg).mono fun e' w' hs => by
    unfold SpanSays at hs
    rw [h] at hs
    exact ⟨hs.1.1, hs.1.2.2.2, hs.2⟩
/-- A fact is appended to the domain. -/
theorem PI.push {w wr w4 : World} {bd be ba g m1 m2 x : Nat} {A : Option Addr} {c : Nat} {T : Ts} {i en base : Nat} {vd v1 : Value} {d : List Fc} {f : Fc} (h : PI w wr bd be ba g m1 m2 x A c T i en base vd d) (hst : St w bd be ba g m1 m2) (ho : Kd.R k42 42 w4 w.heap.size (okD bd be ba g x) v1 ((d ++ [f]).map ofF)) (hb4 : Below w.heap.size w w4) (hg4 : wr.grownBy w4 vd.ownBlock) :
    PI w (w4.setCell ⟨bd, 0, none⟩ v1) bd be ba g m1 m2 x A c T i en base v1 (d ++ [f]) := by
  obtain ⟨s1, s2, s3, s4, s5, s6⟩ := hst
  have ha := Below.refl wr.heap.size wr
  have hR := Kd.R_below h.2.2.1 ha
  have ng : some g ≠ vd.ownBlock := Kd.R_away h.2.2.1 (fun k hk => hk.1)
  have nd : some bd ≠ vd.ownBlock := Kd.R_away h.2.2.1 (fun k hk => hk.2.1)
  have ne : some be ≠ vd.ownBlock := Kd.R_away h.2.2.1 (fun k hk => hk.2.2.1)
  have na : some ba ≠ vd.ownBlock := Kd.R_away h.2.2.1 (fun k hk => hk.2.2.2.1)
  have nm : ∀ m es cl, wr.heap[m]? = some (.map es cl) → some m ≠ vd.ownBlock := by
    intro m es cl hm e
    obtain ⟨cells, hc⟩ := Kd.R_typed hR m e.symm
    rw [hm] at hc
    cases hc
  have hk := ownsMap_below h.2.2.2.1 ha
  have hw := ownsMap_below h.2.2.2.2.1 ha
  have nk : some m1 ≠ vd.ownBlock := by
    obtain ⟨es, cl, e, _⟩ := hk
    exact nm m1 es cl e
  have nw : some m2 ≠ vd.ownBlock := by
    obtain ⟨es, cl, e, _⟩ := hw
    exact nm m2 es cl e
  have hres := h.2.1.below ha
  have hb0 := blk_grown hres.1 hg4 nd
  have hs : w4.grownBy (w4.setCell ⟨bd, 0, none⟩ v1) (some bd) := grown_set (grown_of_below (Below.refl _ _) (some bd)) 0 v1
  refine ⟨⟨blk_far (blk_grown (blk_below h.1.1 ha) hg4 ng) (p := ⟨bd, 0, none⟩) (by show g ≠ bd; omega) _, Kd.R_set (Kd.R_over (Kd.R_below h.1.2 ha) hR (by decide) hg4) hb0 (by decide) 0 v1⟩,
    ⟨blk_put hb0 0 v1 rfl, blk_far (blk_grown hres.2.1 hg4 ne) (p := ⟨bd, 0, none⟩) (by show be ≠ bd; omega) _, blk_far (blk_grown hres.2.2 hg4 na) (p := ⟨bd, 0, none⟩) (by show ba ≠ bd; omega) _⟩,
    Kd.R_far ho (p := ⟨bd, 0, none⟩) (fun k hk => hk.2.1) _, (hk.kept hg4 nk).kept hs (fun e => by have := Option.some.inj e; omega), (hw.kept hg4 nw).kept hs (fun e => by have := Option.some.inj e; omega), below_set hb4 s1⟩
/-- After a panic in a callee that at most moved the reader on. -/
theorem PI.panic {w wr w' : World} {bd be ba g m1 m2 x : Nat} {A : Option Addr} {c : Nat} {T : Ts} {i en base : Nat} {vd : Value} {d : List Fc} (h : PI w wr bd be ba g m1 m2 x A c T i en base vd d) (hs : St w bd be ba g m1 m2) (hg : wr.grownBy w' (some g)) (e a : Nat) (ac : Act) (h2 : ac.tmps.getD 2 undef = .pointer (some ⟨bd, 0, none⟩)) (h3 : ac.tmps.getD 3 undef = .pointer (some ⟨be, 0, none⟩)) (h4 : ac.tmps.getD 4 undef = .pointer (some ⟨ba, 0, none⟩)) (hf : ac.defers = [dfr bd be ba]) :
    bodyPostD Tryd.prog Tryd.f12 (PSays ([], (e : Int), (a : Int)) w) (.panic [{ v := .iface 93 (.agg #[.int .i64 e, .int .i64 a]), recovered := false }]) ac w' := by
  obtain ⟨s1, s2, s3, s4, s5, s6⟩ := hs
  exact parse_panic bd be ba vd 0 0 e a w w' ac h2 h3 h4 hf (h.2.1.grown hg (by omega) (by omega) (by omega)) h.res (h.2.2.2.2.2.grown hg h.2.2.2.2.2.size (fun k hk => by have := Option.some.inj hk; omega)) s1 s2 s3
theorem leaves_congr {P : Program} {fn : Func} {tmps tmps' : Array Value} {R : Ending → World → Prop} (h : results fn tmps = results fn tmps') : ∀ (ds : List Deferred) (u : FrameMode) (w : World), Leaves P fn tmps R ds u w → Leaves P fn tmps' R ds u w
  | [], .returning, w, hl => by unfold Leaves at hl ⊢; rw [← h]; exact hl
  | [], .panicking _, w, hl => hl
  | [], .run, w, hl => hl
  | d :: ds, u, w, hl => by
    obtain ⟨hu, fv, cap, f, args, h1, h2, h3⟩ := hl
    refine ⟨hu, fv, cap, f, args, h1, h2, h3.mono ?_⟩
    intro e u' w' hh
    cases e with
    | returned v => exact leaves_congr h ds _ _ hh
    | panicked ch => exact leaves_congr h ds _ _ hh
    | outgrown => exact hh
theorem results12_put (tmps : Array Value) (N : Nat) (v : Value) (h : N ≠ 2 ∧ N ≠ 3 ∧ N ≠ 4) : results Tryd.f12 (tmps.setIfInBounds N v) = results Tryd.f12 tmps := by
  obtain ⟨h1, h2, h3⟩ := h
  simp [results, Tryd.results12, Array.getElem?_setIfInBounds, h1, h2, h3]
theorem panic_put {R : Ending → World → Prop} (N : Nat) (v : Value) (h : N ≠ 2 ∧ N ≠ 3 ∧ N ≠ 4) (c : List PanicEntry) (a : Act) (w : World) (hp : bodyPostD Tryd.prog Tryd.f12 R (.panic c) (a.put (some N) v) w) : bodyPostD Tryd.prog Tryd.f12 R (.panic c) a w :=
  leaves_congr (results12_put a.tmps N v h) a.defers _ w hp
/-- The results of a reading. -/
def outP : Except (Nat × Nat) (List Fc) → List S42 × Int × Int
  | .ok d => (d.map ofF, 0, 0)
  | .error p => ([], (p.1 : Int), (p.2 : Int))
end Go.Proofs.YtgddmfphlhlcjaaDoor.FcW
