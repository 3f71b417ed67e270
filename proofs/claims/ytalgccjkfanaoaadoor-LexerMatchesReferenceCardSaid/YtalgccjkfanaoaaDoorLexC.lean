/- lexer.Lex: the call returns what the plain lexer tells, in memory of its own. -/
import Derived.Test.YtalgccjkfanaoaaDoorLexO
import Derived.Test.YtalgccjkfanaoaaDoorLexK
namespace Go.Proofs.YtalgccjkfanaoaaDoor.LxW
open Go.RowKit Go.Proofs.YtalgccjkfanaoaaDoorW.PrintWords Go.Proofs.YtalgccjkfanaoaaDoorW.PrintLast Go.Proofs.YtalgccjkfanaoaaDoorW.PrintMore
open Go.Proofs.YtalgccjkfanaoaaDoor Go.Proofs.YtalgccjkfanaoaaDoor.LxP
set_option linter.unusedVariables false
set_option linter.unusedSimpArgs false

def toS (p : Nat × Tk) : PL.S30 := ⟨p.2.kind, p.1, p.2.n, bs p.2.text⟩
def lexT (s : ByteArray) : List PL.S30 × Int × Int := if 20000 < s.size then ([], 2, -1) else match lex s.data.toList with
  | .error (e, at') => ([], e, at')
  | .ok ts => (ts.map toS, 0, 0)

/-- What the call leaves. -/
def LexSays (r : List PL.S30 × Int × Int) (w : World) (e : Ending) (w' : World) : Prop :=
  ∃ v0_ : Value, e = .returned (.tuple #[v0_, .int .i64 r.2.1, .int .i64 r.2.2]) ∧ Kd.R PL.k30 30 w' w.heap.size (fun _ => True) v0_ r.1 ∧ Below w.heap.size w w'

set_option maxHeartbeats 1000000 in
theorem lex_long (s : ByteArray) (w : World) (h : 20000 < s.size) : Calls Tryd.prog 12 #[.string s] w (LexSays (lexT s) w) := by
  have he : lexT s = ([], 2, -1) := by unfold lexT; rw [if_pos h]
  rw [he]
  have h1 : decide (20000 < s.size) = true := decide_eq_true h
  have h2 : decide (20000 < (s.size : Int)) = true := decide_eq_true (by omega)
  go_enter Tryd.func12, Tryd.ntmps12
  go_wp2_with fail
  go_ret3
  exact ⟨_, rfl, Kd.R_nil _ _ _ _ _, Below.refl _ _⟩

def scanL (s : ByteArray) : List Value := .string s :: nums .i64 clsL
theorem run_build44 (s : ByteArray) (w : World) : (Instr.build 44 #[(0, .string s), (1, .agg (rowA clsL))]).run Tryd.prog w = .ok (.agg (scanL s).toArray) w := by kernel_rfl
theorem size44 : Tryd.zeroCells44.size = 257 := by kernel_rfl
theorem info44 : (Tryd.prog.info? 44).map (·.size) = some 257 := by kernel_rfl
set_option maxRecDepth 100000 in
theorem scanL_size (s : ByteArray) : (scanL s).toArray.size = 257 := by simp [scanL, nums, clsL_length]
set_option maxRecDepth 100000 in
theorem scanL_one (s : ByteArray) : (scanL s).toArray.all (·.oneCell') = true := by simp [scanL, nums, Value.oneCell']
set_option maxRecDepth 100000 in
theorem scan_of {w : World} {g : Nat} {s : ByteArray} (h : w.heap[g]? = some (.cells (scanL s).toArray 44 (0, 0))) : Scan w g s := by
  refine ⟨by rw [blk_cell h]; rfl, fun c => ?_⟩
  rw [blk_cell h, Nat.add_comm]
  have hc := c.toNat_lt
  have e : clsL[c.toNat]? = some (cls c : Int) := by
    unfold clsL
    rw [List.getElem?_map, List.getElem?_range hc]
    simp
  simp only [scanL, List.getElem?_toArray, List.getElem?_cons_succ, nums, List.getElem?_map, e, Option.map_some]
section
variable {ops : Array Oper} {rest : List Oper} {o : Oper} {a : Act} {Q : Exit → Act → World → Prop} {w : World}
theorem wp_build44 (hgd : o.guard = none) (x y : Operand) (s : ByteArray) (ho : o.op = .build 44 #[(0, x), (1, y)]) (hx : a.eval x = .string s) (hy : a.eval y = .agg (rowA clsL)) (h : wpList Tryd.prog ops Q rest (a.put o.dst (.agg (scanL s).toArray)) w) : wpList Tryd.prog ops Q (o :: rest) a w := by
  refine Kd.event_run hgd ?_ h
  unfold execOp
  simp only [ho, List.map_toArray, List.map_cons, List.map_nil, hx, hy, Sem.run_bind, run_build44, Result.andThen_ok, Sem.run_pure]
end

/-! the plain side of the loop -/
theorem gapS_drop : ∀ (b : Bool) (l : List UInt8), gapS b l = l.drop (l.length - (gapS b l).length)
  | b, [] => by cases b <;> rfl
  | false, c :: r => by
    simp only [gapS]
    split
    · have h1 := gapS_drop false r
      have h2 := gapS_le false r
      rw [show (c :: r).length - (gapS false r).length = r.length - (gapS false r).length + 1 by simp only [List.length_cons]; omega, List.drop_succ_cons, ← h1]
    · split
      · have h1 := gapS_drop true r
        have h2 := gapS_le true r
        rw [show (c :: r).length - (gapS true r).length = r.length - (gapS true r).length + 1 by simp only [List.length_cons]; omega, List.drop_succ_cons, ← h1]
      · simp
  | true, c :: r => by
    simp only [gapS]
    split
    · have h1 := gapS_drop false r
      have h2 := gapS_le false r
      rw [show (c :: r).length - (gapS false r).length = r.length - (gapS false r).length + 1 by simp only [List.length_cons]; omega, List.drop_succ_cons, ← h1]
    · have h1 := gapS_drop true r
      have h2 := gapS_le true r
      rw [show (c :: r).length - (gapS true r).length = r.length - (gapS true r).length + 1 by simp only [List.length_cons]; omega, List.drop_succ_cons, ← h1]
theorem gapS_idem (b : Bool) (l : List UInt8) : gapS false (gapS b l) = gapS b l := by
  rcases gap_split b l with ⟨h, _⟩ | ⟨g, c, r, _, h, _, h1, h2⟩
  · rw [h]; rfl
  · rw [h]; exact gapS_here h1 h2
theorem rest_gapE (s : ByteArray) (i : Nat) (hi : i ≤ s.size) : gapE s i ≤ s.size ∧ i ≤ gapE s i ∧ rest s (gapE s i) = gapS false (rest s i) := by
  have h1 := gapS_le false (rest s i)
  rw [rest_length] at h1
  have h2 := gapS_drop false (rest s i)
  rw [rest_length, rest_drop] at h2
  unfold gapE
  refine ⟨by omega, by omega, ?_⟩
  rw [h2]
  congr 1
  rw [← h2]
  omega
theorem lexN_skip (k off n : Nat) (l : List UInt8) : lexN (k + 1) off n l = lexN (k + 1) (off + (l.length - (gapS false l).length)) n (gapS false l) := by
  simp only [lexN, gapS_idem]
  cases gapS false l with
  | nil => rfl
  | cons c r =>
    simp only [Nat.sub_self, Nat.add_zero]
theorem tok_width {l : List UInt8} {t : Tk} (h : tok l = .ok t) : 0 < t.width ∧ t.width ≤ l.length := by
  obtain ⟨w, r, e, hv⟩ := view_of_tok h
  obtain ⟨h1, h2, h3⟩ := hv.width
  rw [e, List.length_append]
  omega
theorem lexN_fuel : ∀ (k k' off n : Nat) (l : List UInt8), l.length < k → l.length < k' → lexN k off n l = lexN k' off n l
  | 0, _, _, _, _, h, _ => by omega
  | k + 1, 0, _, _, _, _, h => by omega
  | k + 1, k' + 1, off, n, l, h, h' => by
    simp only [lexN]
    have hle := gapS_le false l
    cases hg : gapS false l with
    | nil => rfl
    | cons c r =>
      simp only
      cases ht : tok (c :: r) with
      | error e => rfl
      | ok t =>
        simp only
        obtain ⟨w1, w2⟩ := tok_width ht
        rw [hg] at hle
        rw [lexN_fuel k k' _ _ _ (by rw [List.length_drop]; omega) (by rw [List.length_drop]; omega)]
theorem tok_error {l : List UInt8} {e : Nat} (h : tok l = .error e) : 2 ≤ e ∧ e ≤ 6 := by
  cases l with
  | nil => cases h; decide
  | cons c r =>
    by_cases h3 : isL c = true
    · simp only [tok, h3, if_true] at h
      split at h
      · injection h with h; omega
      · cases h
    · have h3' : isL c = false := by simpa using h3
      by_cases h4 : isD c = true
      · rw [tok_num c r h3' h4] at h
        split at h
        · injection h with h; omega
        · unfold numR at h
          split at h
          · cases h
          · split at h
            · injection h with h; omega
            · cases h
      · have h4' : isD c = false := by simpa using h4
        by_cases h6 : (c == 34) = true
        · rw [tok_str c r h3' h4' h6] at h
          unfold strR at h
          split at h
          · injection h with h; omega
          · split at h
            · injection h with h; omega
            · split at h
              · injection h with h; omega
              · cases h
        · have h6' : (c == 34) = false := by simpa using h6
          by_cases h7 : (c == 33 || c == 60 || c == 62) = true
          · rw [tok_sym c r h3' h4' h6' h7] at h
            unfold symR at h
            split at h
            · cases h
            · split at h
              · injection h with h; omega
              · cases h
          · rw [tok_rest c r h3' h4' h6' (by simpa using h7)] at h
            split at h
            · cases h
            · injection h with h; omega
def contT (acc : List PL.S30) : Except (Nat × Nat) (List (Nat × Tk)) → List PL.S30 × Int × Int
  | .error (e, at') => ([], e, at')
  | .ok ts => (acc ++ ts.map toS, 0, 0)
theorem contT_step (acc : List PL.S30) (x : Nat × Tk) (r : Except (Nat × Nat) (List (Nat × Tk))) : contT acc (match r with | .error e => .error e | .ok ts => .ok (x :: ts)) = contT (acc ++ [toS x]) r := by
  cases r with
  | error e => rfl
  | ok ts => simp [contT]
/-- What is still to come. -/
def Inv (s : ByteArray) (acc : List PL.S30) (j : Nat) : Prop := gapS false (rest s j) = rest s j ∧ contT acc (lexN (s.size + 1) j acc.length (rest s j)) = lexT s
theorem Inv.start (s : ByteArray) (h : ¬ 20000 < s.size) : Inv s [] (gapE s 0) := by
  obtain ⟨h1, h2, h3⟩ := rest_gapE s 0 (Nat.zero_le _)
  have h0 : rest s 0 = s.data.toList := rfl
  refine ⟨by rw [h3, gapS_idem], ?_⟩
  unfold lexT
  rw [if_neg h]
  have e : lexN (s.size + 1) (gapE s 0) 0 (rest s (gapE s 0)) = lex s.data.toList := by
    unfold lex
    have h4 := lexN_skip (rest s 0).length 0 0 (rest s 0)
    have hl := rest_length s 0
    have hle := gapS_le false (rest s 0)
    rw [← h0, h4, h3]
    rw [hl]
    unfold gapE
    have e1 : 0 + (s.size - 0 - (gapS false (rest s 0)).length) = s.size - (gapS false (rest s 0)).length := by omega
    rw [e1]
    rfl
  rw [show ([] : List PL.S30).length = 0 from rfl, e]
  cases lex s.data.toList with
  | error e => rfl
  | ok ts => simp [contT]
theorem Inv.error {s : ByteArray} {acc : List PL.S30} {j e : Nat} {c : UInt8} {r : List UInt8} (h : Inv s acc j) (hr : rest s j = c :: r) (ht : tok (rest s j) = .error e) : lexT s = ([], (e : Int), (j : Int)) := by
  obtain ⟨h1, h2⟩ := h
  rw [← h2]
  rw [hr] at h1 ht ⊢
  simp only [lexN, h1, ht, contT, Nat.sub_self, Nat.add_zero]
theorem Inv.full {s : ByteArray} {acc : List PL.S30} {j : Nat} {t : Tk} {c : UInt8} {r : List UInt8} (h : Inv s acc j) (hr : rest s j = c :: r) (ht : tok (rest s j) = .ok t) (hn : acc.length = 5000) : lexT s = ([], (2 : Int), (j : Int)) := by
  obtain ⟨h1, h2⟩ := h
  rw [← h2]
  rw [hr] at h1 ht ⊢
  simp only [lexN, h1, ht, hn, if_true, contT, Nat.sub_self, Nat.add_zero]
  rfl
theorem Inv.done {s : ByteArray} {acc : List PL.S30} {j : Nat} (h : Inv s acc j) (hr : rest s j = []) : lexT s = (acc, 0, 0) := by
  obtain ⟨h1, h2⟩ := h
  rw [← h2, hr]
  simp [lexN, gapS, contT]
theorem Inv.next {s : ByteArray} {acc : List PL.S30} {j : Nat} {t : Tk} {c : UInt8} {r : List UInt8} (h : Inv s acc j) (hr : rest s j = c :: r) (ht : tok (rest s j) = .ok t) (hn : ¬ acc.length = 5000) : 0 < t.width ∧ j + t.width ≤ s.size ∧ Inv s (acc ++ [toS (j, t)]) (gapE s (j + t.width)) := by
  obtain ⟨h1, h2⟩ := h
  obtain ⟨w1, w2⟩ := tok_width ht
  rw [rest_length] at w2
  have hle : j + t.width ≤ s.size := by omega
  obtain ⟨g1, g2, g3⟩ := rest_gapE s (j + t.width) hle
  refine ⟨w1, hle, by rw [g3, gapS_idem], ?_⟩
  rw [← h2]
  have hl := rest_length s j
  have hd : (c :: r).drop t.width = rest s (j + t.width) := by rw [← hr, rest_drop]
  have e1 : lexN (s.size + 1) j acc.length (rest s j) = match lexN s.size (j + t.width) (acc.length + 1) (rest s (j + t.width)) with | .error e => .error e | .ok ts => .ok ((j, t) :: ts) := by
    rw [hr] at h1 ht ⊢
    simp only [lexN, h1, ht, if_neg hn, Nat.sub_self, Nat.add_zero, hd]
    cases lexN s.size (j + t.width) (acc.length + 1) (rest s (j + t.width)) <;> rfl
  rw [e1, contT_step, List.length_append, List.length_singleton]
  congr 1
  have hl2 := rest_length s (j + t.width)
  have hg := gapS_le false (rest s (j + t.width))
  have h4 := lexN_skip s.size (j + t.width) (acc.length + 1) (rest s (j + t.width))
  rw [lexN_fuel s.size (s.size + 1) _ _ _ (by omega) (by omega), h4, g3, hl2]
  have e5 : j + t.width + (s.size - (j + t.width) - (gapS false (rest s (j + t.width))).length) = gapE s (j + t.width) := by
    unfold gapE
    omega
  rw [e5]

theorem next_err (g : Nat) (s : ByteArray) (i er : Nat) (w : World) (hs : s.size ≤ 1000000) (hg : Scan w g s) (hi : i < s.size) (ht : tok (rest s i) = .error er) :
    Calls Tryd.prog 24 #[.pointer (some ⟨g, 0, none⟩), .int .i64 i] w fun e w' => e = .returned (.tuple #[.agg #[.int .i64 0, .int .i64 0, .int .i64 0, .string ⟨#[]⟩], .int .i64 0, .int .i64 er]) ∧ Below w.heap.size w w' :=
  (next_any g s i w hs hg hi).mono fun e w' h => by
    obtain ⟨h1, h2⟩ := h
    rw [ht] at h1
    exact ⟨h1, h2⟩
theorem next_ok (g : Nat) (s : ByteArray) (i : Nat) (t : Tk) (w : World) (hs : s.size ≤ 1000000) (hg : Scan w g s) (hi : i < s.size) (ht : tok (rest s i) = .ok t) (k n e : Nat) (x : ByteArray) (hk : t.kind = k) (hn : t.n = n) (hx : bs t.text = x) (he : i + t.width = e) :
    Calls Tryd.prog 24 #[.pointer (some ⟨g, 0, none⟩), .int .i64 i] w fun e' w' => e' = .returned (.tuple #[.agg #[.int .i64 k, .int .i64 i, .int .i64 n, .string x], .int .i64 e, .int .i64 0]) ∧ Below w.heap.size w w' :=
  (next_any g s i w hs hg hi).mono fun e' w' h => by
    obtain ⟨h1, h2⟩ := h
    rw [ht] at h1
    subst hk hn hx he
    exact ⟨h1, h2⟩

set_option maxHeartbeats 4000000 in
set_option maxRecDepth 1000000 in
theorem lex_short (s : ByteArray) (w : World) (h : ¬ 20000 < s.size) : Calls Tryd.prog 12 #[.string s] w (LexSays (lexT s) w) := by
  have h1 : decide (20000 < s.size) = false := decide_eq_false h
  have h2 : decide (20000 < (s.size : Int)) = false := decide_eq_false (by omega)
  go_enter Tryd.func12, Tryd.ntmps12
  go_wp2_with (first
    | (go_at_call 22; refine (classes_any _).mono ?_; rintro e w1 ⟨rfl, hb1⟩; have HB1 := Lib.hid hb1; clear hb1)
    | (refine wp_build44 rfl _ _ s rfl rfl rfl ?_)
    | (refine wpList_store_row rfl 44 _ _ rfl w1.heap.size (scanL s).toArray rfl rfl 44 Tryd.zeroCells44 (heap_alloc_new _ _) (by rw [scanL_size]; exact info44) (by rw [scanL_size, size44]) (scanL_one s) ?_))
  obtain ⟨g, hg⟩ : ∃ g, w1.heap.size = g := ⟨_, rfl⟩
  obtain ⟨W, hW⟩ : ∃ W, (w1.alloc (Obj.cells Tryd.zeroCells44 44)).setRow w1.heap.size (scanL s).toArray = W := ⟨_, rfl⟩
  have hle : w.heap.size ≤ g := by rw [← hg]; exact HB1.out.size
  have HS : Hid (W.heap[g]? = some (.cells (scanL s).toArray 44 (0, 0))) := Lib.hid (by rw [← hW, ← hg]; exact setRow_heap _ _ _ _ _ _ (heap_alloc_new _ _))
  have HBW : Hid (Below w.heap.size w W) := Lib.hid (by rw [← hW]; exact below_setRow (below_alloc HB1.out _) HB1.out.size _)
  rw [hW, hg]
  clear hW
  have hs : s.size ≤ 20000 := by omega
  go_wp2_with (go_at_call 23; refine (gap_any g s 0 W (by omega) (scan_of HS.out) (Nat.zero_le _)).mono ?_; rintro e w2 ⟨rfl, hb2⟩; have HB2 := Lib.hid hb2; clear hb2)
  go_loopw [6, 7] (fun v6 v7 wr => ∃ (acc : List PL.S30) (j : Nat), v7 = .int .i64 j ∧ j ≤ s.size ∧ acc.length ≤ 5000 ∧ Aside0 (Kd.R PL.k30 30 wr w.heap.size (fun k => k ≠ g) v6 acc) ∧ Aside0 (Below w.heap.size w wr) ∧ Aside0 (wr.heap[g]? = some (.cells (scanL s).toArray 44 (0, 0))) ∧ Aside0 (Inv s acc j)) (fun _ v7 _ => s.size - (intOf v7).toNat)
  case atStart =>
    exact ⟨[], gapE s 0, rfl, (rest_gapE s 0 (Nat.zero_le _)).1, by simp, ⟨Kd.R_nil _ _ _ _ _⟩, ⟨below_step HBW.out HB2.out⟩, ⟨blk_below HS.out HB2.out⟩, ⟨Inv.start s h⟩⟩
  case round =>
    obtain ⟨acc, j, rfl, hj, hal, HR, HB, HG, HI⟩ := hrel
    have hgl : g < wr.heap.size := blk_lt HG.out
    by_cases hlt : j < s.size
    · have hrc := rest_cons s j hlt
      obtain ⟨r, hr⟩ : ∃ r, rest s (j + 1) = r := ⟨_, rfl⟩
      obtain ⟨c, hc⟩ : ∃ c, s[j]'hlt = c := ⟨_, rfl⟩
      rw [hr, hc] at hrc
      have HRC := Lib.hid hrc
      clear hrc hr hc
      cases ht : tok (rest s j) with
      | error er =>
        have HE := Lib.hid (HI.out.error HRC.out ht)
        have HT := Lib.hid ht
        have her := tok_error ht
        clear ht
        have hne : ((er : Int) == 0) = false := beq_eq_false_iff_ne.2 (by omega)
        have hne2 : ((er : Int) != 0) = true := by rw [bne_iff_ne]; omega
        go_wp2_with (go_at_call 24; refine (next_err g s j er _ (by omega) (scan_of HG.out) hlt HT.out).mono ?_; rintro e w3 ⟨rfl, hb3⟩; have HB3 := Lib.hid hb3; clear hb3)
        go_ret3
        rw [HE.out]
        exact ⟨_, rfl, Kd.R_nil _ _ _ _ _, by repeat (first | exact below_step HB.out HB3.out | apply below_alloc | apply pw_below_drewN)⟩
      | ok t =>
        have HT := Lib.hid ht
        obtain ⟨k, hk⟩ : ∃ k, t.kind = k := ⟨_, rfl⟩
        obtain ⟨n, hn⟩ : ∃ n, t.n = n := ⟨_, rfl⟩
        obtain ⟨x, hx⟩ : ∃ x, bs t.text = x := ⟨_, rfl⟩
        obtain ⟨q, hq⟩ : ∃ q, j + t.width = q := ⟨_, rfl⟩
        have HK := Lib.hid hk
        have HN := Lib.hid hn
        have HX := Lib.hid hx
        have HQ := Lib.hid hq
        by_cases hfull : acc.length = 5000
        · have HE := Lib.hid (HI.out.full HRC.out ht hfull)
          obtain ⟨A, cp, hv⟩ := Kd.R_slice HR.out
          have hl5 : ((acc.length : Int) == 5000) = true := beq_iff_eq.2 (by omega)
          have hl6 : (acc.length == 5000) = true := beq_iff_eq.2 hfull
          subst hv
          clear hk hn hx hq ht hfull
          go_wp2_with (go_at_call 24; refine (next_ok g s j t _ (by omega) (scan_of HG.out) hlt HT.out k n q x HK.out HN.out HX.out HQ.out).mono ?_; rintro e w3 ⟨rfl, hb3⟩; have HB3 := Lib.hid hb3; clear hb3)
          go_ret3
          rw [HE.out]
          exact ⟨_, rfl, Kd.R_nil _ _ _ _ _, by repeat (first | exact below_step HB.out HB3.out | apply below_alloc | apply pw_below_drewN)⟩
        · obtain ⟨n1, n2, n3⟩ := HI.out.next HRC.out ht hfull
          have HI2 := Lib.hid n3
          obtain ⟨q1, q2, _⟩ := rest_gapE s (j + t.width) n2
          rw [hq] at q1 q2 n2
          obtain ⟨A, cp, hv⟩ := Kd.R_slice HR.out
          have hl5 : ((acc.length : Int) == 5000) = false := beq_eq_false_iff_ne.2 (by omega)
          have hl6 : (acc.length == 5000) = false := beq_eq_false_iff_ne.2 hfull
          subst hv
          clear hk hn hx hq ht hfull n3
          go_wp2_with (first
            | (go_at_call 24; refine (next_ok g s j t _ (by omega) (scan_of HG.out) hlt HT.out k n q x HK.out HN.out HX.out HQ.out).mono ?_; rintro e w3 ⟨rfl, hb3⟩; have HB3 := Lib.hid hb3; clear hb3)
            | ((with_reducible refine gate_builtin (b := .append) (xs := #[.tmp 41, .tmp 43]) rfl ?_); at_builtin; refine Kd.R_append PL.k30 (w0 := w) w.heap.size rfl (.tmp 41) (.tmp 43) 23 30 (.agg #[(.int .i64 0), (.int .i64 0), (.int .i64 0), (.string ⟨#[]⟩)]) 40 rfl Tryd.underlying23 PL.info30 rfl (by decide) (by omega) (.slice A acc.length cp) acc (⟨k, j, n, x⟩ : PL.S30) [.int .i64 k, .int .i64 j, .int .i64 n, .string x] (fun k_ => k_ ≠ g) (fun _ => False) rfl (by first | (go_simp; done) | (go_simp; rfl)) ?aP (fun _ hk => hk.elim) ?aF ?aO ?aB ?aS ?aL ?_; (case aP => exact PL.k30_mkM _ _ _ (⟨k, j, n, x⟩ : PL.S30)); (case aF => exact (fun k_ hk => Kd.freshB (blk_alloc (blk_below HG.out HB3.out) _) k_ hk)); (case aO => exact Kd.R_alloc (Kd.R_below HR.out HB3.out) _); (case aB => exact below_alloc (below_step HB.out HB3.out) _); (case aS => exact below_size (below_alloc (below_step HB.out HB3.out) _)); (case aL => omega); intro v1 w4 ho hb4 hg4 hat; have HG4 := Lib.hid (blk_grown (blk_alloc (blk_below HG.out HB3.out) _) hg4 (Kd.R_away HR.out (fun _ hk => hk))); have HO4 := Lib.hid ho; have HB4 := Lib.hid hb4; clear ho hb4 hg4 hat)
            | (go_at_call 23; refine (gap_any g s q _ (by omega) (scan_of HG4.out) (by omega)).mono ?_; rintro e w5 ⟨rfl, hb5⟩; have HB5 := Lib.hid hb5; clear hb5))
          refine ⟨⟨acc ++ [(⟨k, j, n, x⟩ : PL.S30)], gapE s q, rfl, q1, by have h7 := beq_eq_false_iff_ne.1 hl6; simp only [List.length_append, List.length_singleton]; omega, ⟨Kd.R_below HO4.out HB5.out⟩, ⟨below_step HB4.out HB5.out⟩, ⟨blk_below HG4.out HB5.out⟩, ⟨?_⟩⟩, ?_⟩
          · have h5 := HI2.out
            have e5 : toS (j, t) = (⟨k, j, n, x⟩ : PL.S30) := by unfold toS; rw [HK.out, HN.out, HX.out]
            rw [e5, HQ.out] at h5
            exact h5
          · have h6 := HQ.out
            simp only [intOf, Int.toNat_natCast]
            omega
    · have hd : decide ((j : Int) < (s.size : Int)) = false := decide_eq_false (by omega)
      have hd2 : decide (j < s.size) = false := decide_eq_false hlt
      have HE := Lib.hid (HI.out.done (rest_nil s j hlt))
      go_wp2_with fail
      go_ret3
      rw [HE.out]
      exact ⟨_, rfl, Kd.R_mono HR.out (fun _ _ => trivial), HB.out⟩

theorem lex_any (s : ByteArray) (w : World) : Calls Tryd.prog 12 #[.string s] w (LexSays (lexT s) w) := by
  by_cases h : 20000 < s.size
  · exact lex_long s w h
  · exact lex_short s w h
end Go.Proofs.YtalgccjkfanaoaaDoor.LxW
namespace Go.Proofs.YtalgccjkfanaoaaDoor.PL
open Go.RowKit Go.Proofs.YtalgccjkfanaoaaDoorW.PrintWords Go.Proofs.YtalgccjkfanaoaaDoorW.PrintLast Go.Proofs.YtalgccjkfanaoaaDoorW.PrintMore
/-- What lexer.Lex tells: tokens, error, offset. -/
def lexer_Lex.f (a0 : ByteArray) : Option (List S30 × Int × Int) := some (LxW.lexT a0)
theorem lexer_Lex.calls (a0 : ByteArray) (r1 : List S30) (r2 : Int) (r3 : Int) (w : World) (h : lexer_Lex.f a0 = some (r1, r2, r3)) :
    Calls Tryd.prog 12 #[.string a0] w fun e w' => ∃ v0_ : Value, e = .returned (.tuple #[v0_, .int .i64 r2, .int .i64 r3]) ∧ Kd.R k30 30 w' w.heap.size (fun _ => True) v0_ r1 ∧ Below w.heap.size w w' := by
  have e : LxW.lexT a0 = (r1, r2, r3) := Option.some.inj h
  refine (LxW.lex_any a0 w).mono fun e' w' h' => ?_
  rw [e] at h'
  exact h'
end Go.Proofs.YtalgccjkfanaoaaDoor.PL
