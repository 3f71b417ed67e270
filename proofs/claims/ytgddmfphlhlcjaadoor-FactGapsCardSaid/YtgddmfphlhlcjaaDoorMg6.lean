/- lexer.Lex: the call returns what the plain lexer tells, in memory of its own.
What lexer.Lex tells, by the plain lexer: tokens one after the other, or an error.
The plain facts: domains, cases, their texts and readers; no program in sight. -/
import Derived.Test.YtgddmfphlhlcjaaDoorMg5
import Derived.Test.YtgddmfphlhlcjaaDoorMg3
namespace Go.Proofs.YtgddmfphlhlcjaaDoor.LxW
open Go.RowKit Go.Proofs.YtgddmfphlhlcjaaDoorW.PrintWords Go.Proofs.YtgddmfphlhlcjaaDoorW.PrintLast Go.Proofs.YtgddmfphlhlcjaaDoorW.PrintMore
open Go.Proofs.YtgddmfphlhlcjaaDoor Go.Proofs.YtgddmfphlhlcjaaDoor.LxP
set_option linter.unusedVariables false
set_option linter.unusedSimpArgs false

def toS (p : Nat × Tk) : PF.S77 := ⟨p.2.kind, p.1, p.2.n, bs p.2.text⟩
def lexT (s : ByteArray) : List PF.S77 × Int × Int := if 20000 < s.size then ([], 2, -1) else match lex s.data.toList with
  | .error (e, at') => ([], e, at')
  | .ok ts => (ts.map toS, 0, 0)

/-- What the call leaves. -/
def LexSays (r : List PF.S77 × Int × Int) (w : World) (e : Ending) (w' : World) : Prop :=
  ∃ v0_ : Value, e = .returned (.tuple #[v0_, .int .i64 r.2.1, .int .i64 r.2.2]) ∧ Kd.R PF.k77 77 w' w.heap.size (fun _ => True) v0_ r.1 ∧ Below w.heap.size w w'

set_option maxHeartbeats 1000000 in
theorem lex_long (s : ByteArray) (w : World) (h : 20000 < s.size) : Calls Tryd.prog 21 #[.string s] w (LexSays (lexT s) w) := by
  have he : lexT s = ([], 2, -1) := by unfold lexT; rw [if_pos h]
  rw [he]
  have h1 : decide (20000 < s.size) = true := decide_eq_true h
  have h2 : decide (20000 < (s.size : Int)) = true := decide_eq_true (by omega)
  go_enter Tryd.func21, Tryd.ntmps21
  go_wp2_with fail
  go_ret3
  exact ⟨_, rfl, Kd.R_nil _ _ _ _ _, Below.refl _ _⟩

def scanL (s : ByteArray) : List Value := .string s :: nums .i64 clsL
theorem run_build44 (s : ByteArray) (w : World) : (Instr.build 86 #[(0, .string s), (1, .agg (rowA clsL))]).run Tryd.prog w = .ok (.agg (scanL s).toArray) w := by kernel_rfl
theorem size44 : Tryd.zeroCells86.size = 257 := by kernel_rfl
theorem info44 : (Tryd.prog.info? 86).map (·.size) = some 257 := by kernel_rfl
set_option maxRecDepth 100000 in
theorem scanL_size (s : ByteArray) : (scanL s).toArray.size = 257 := by simp [scanL, nums, clsL_length]
set_option maxRecDepth 100000 in
theorem scanL_one (s : ByteArray) : (scanL s).toArray.all (·.oneCell') = true := by simp [scanL, nums, Value.oneCell']
set_option maxRecDepth 100000 in
theorem scan_of {w : World} {g : Nat} {s : ByteArray} (h : w.heap[g]? = some (.cells (scanL s).toArray 86 (0, 0))) : Scan w g s := by
  refine ⟨by rw [blk_cell h]; rfl, fun c => ?_⟩
  rw [blk_cell h, Nat.add_comm]
  have hc := c.toNat_lt
  have e : clsL[c.toNat]? = some (cls c : Int) := by
    unfold clsL
    rw [List.getElem?_map, List.getElem?_range hc]
    simp
  simp only [scanL, List.getElem?_toArray, List.getElem?_cons_succ, nums, List.getElem?_map, e, Option.map_some]
section
variable {ops : Array Oper} {rest : List Oper} {o : Oper} {a : Act} {Q : Exit → Act → World → Prop} {w : World}
theorem wp_build44 (hgd : o.guard = none) (x y : Operand) (s : ByteArray) (ho : o.op = .build 86 #[(0, x), (1, y)]) (hx : a.eval x = .string s) (hy : a.eval y = .agg (rowA clsL)) (h : wpList Tryd.prog ops Q rest (a.put o.dst (.agg (scanL s).toArray)) w) : wpList Tryd.prog ops Q (o :: rest) a w := by
  refine Kd.event_run hgd ?_ h
  unfold execOp
  simp only [ho, List.map_toArray, List.map_cons, List.map_nil, hx, hy, Sem.run_bind, run_build44, Result.andThen_ok, Sem.run_pure]
end

/-! the plain side of the loop -/
theorem gapS_drop : ∀ (b : Bool) (l : List UInt8), gapS b l = l.drop (l.length - (gapS b l).length)
  | b, [] => by cases b <;> rfl
  | false, c :: r => by
    simp only [gapS]
    split
    · have h1 := gapS_drop false r
      have h2 := gapS_le false r
      rw [show (c :: r).length - (gapS false r).length = r.length - (gapS false r).length + 1 by simp only [List.length_cons]; omega, List.drop_succ_cons, ← h1]
    · split
      · have h1 := gapS_drop true r
        have h2 := gapS_le true r
        rw [show (c :: r).length - (gapS true r).length = r.length - (gapS true r).length + 1 by simp only [List.length_cons]; omega, List.drop_succ_cons, ← h1]
      · simp
  | true, c :: r => by
    simp only [gapS]
    split
    · have h1 := gapS_drop false r
      have h2 := gapS_le false r
      rw [show (c :: r).length - (gapS false r).length = r.length - (gapS false r).length + 1 by simp only [List.length_cons]; omega, List.drop_succ_cons, ← h1]
    · have h1 := gapS_drop true r
      have h2 := gapS_le true r
      rw [show (c :: r).length - (gapS true r).length = r.length - (gapS true r).length + 1 by simp only [List.length_cons]; omega, List.drop_succ_cons, ← h1]
theorem gapS_idem (b : Bool) (l : List UInt8) : gapS false (gapS b l) = gapS b l := by
  rcases gap_split b l with ⟨h, _⟩ | ⟨g, c, r, _, h, _, h1, h2⟩
  · rw [h]; rfl
  · rw [h]; exact gapS_here h1 h2
theorem rest_gapE (s : ByteArray) (i : Nat) (hi : i ≤ s.size) : gapE s i ≤ s.size ∧ i ≤ gapE s i ∧ rest s (gapE s i) = gapS false (rest s i) := by
  have h1 := gapS_le false (rest s i)
  rw [rest_length] at h1
  have h2 := gapS_drop false (rest s i)
  rw [rest_length, rest_drop] at h2
  unfold gapE
  refine ⟨by omega, by omega, ?_⟩
  rw [h2]
  congr 1
  rw [← h2]
  omega
theorem lexN_skip (k off n : Nat) (l : List UInt8) : lexN (k + 1) off n l = lexN (k + 1) (off + (l.length - (gapS false l).length)) n (gapS false l) := by
  simp only [lexN, gapS_idem]
  cases gapS false l with
  | nil => rfl
  | cons c r =>
    simp only [Nat.sub_self, Nat.add_zero]
theorem tok_width {l : List UInt8} {t : Tk} (h : tok l = .ok t) : 0 < t.width ∧ t.width ≤ l.length := by
  obtain ⟨w, r, e, hv⟩ := view_of_tok h
  obtain ⟨h1, h2, h3⟩ := hv.width
  rw [e, List.length_append]
  omega
theorem lexN_fuel : ∀ (k k' off n : Nat) (l : List UInt8), l.length < k → l.length < k' → lexN k off n l = lexN k' off n l
  | 0, _, _, _, _, h, _ => by omega
  | k + 1, 0, _, _, _, _, h => by omega
  | k + 1, k' + 1, off, n, l, h, h' => by
    simp only [lexN]
    have hle := gapS_le false l
    cases hg : gapS false l with
    | nil => rfl
    | cons c r =>
      simp only
      cases ht : tok (c :: r) with
      | error e => rfl
      | ok t =>
        simp only
        obtain ⟨w1, w2⟩ := tok_width ht
        rw [hg] at hle
        rw [lexN_fuel k k' _ _ _ (by rw [List.length_drop]; omega) (by rw [List.length_drop]; omega)]
theorem tok_error {l : List UInt8} {e : Nat} (h : tok l = .error e) : 2 ≤ e ∧ e ≤ 6 := by
  cases l with
  | nil => cases h; decide
  | cons c r =>
    by_cases h3 : isL c = true
    · simp only [tok, h3, if_true] at h
      split at h
      · injection h with h; omega
      · cases h
    · have h3' : isL c = false := by simpa using h3
      by_cases h4 : isD c = true
      · rw [tok_num c r h3' h4] at h
        split at h
        · injection h with h; omega
        · unfold numR at h
          split at h
          · cases h
          · split at h
            · injection h with h; omega
            · cases h
      · have h4' : isD c = false := by simpa using h4
        by_cases h6 : (c == 34) = true
        · rw [tok_str c r h3' h4' h6] at h
          unfold strR at h
          split at h
          · injection h with h; omega
          · split at h
            · injection h with h; omega
            · split at h
              · injection h with h; omega
              · cases h
        · have h6' : (c == 34) = false := by simpa using h6
          by_cases h7 : (c == 33 || c == 60 || c == 62) = true
          · rw [tok_sym c r h3' h4' h6' h7] at h
            unfold symR at h
            split at h
            · cases h
            · split at h
              · injection h with h; omega
              · cases h
          · rw [tok_rest c r h3' h4' h6' (by simpa using h7)] at h
            split at h
            · cases h
            · injection h with h; omega
def contT (acc : List PF.S77) : Except (Nat × Nat) (List (Nat × Tk)) → List PF.S77 × Int × Int
  | .error (e, at') => ([], e, at')
  | .ok ts => (acc ++ ts.map toS, 0, 0)
theorem contT_step (acc : List PF.S77) (x : Nat × Tk) (r : Except (Nat × Nat) (List (Nat × Tk))) : contT acc (match r with | .error e => .error e | .ok ts => .ok (x :: ts)) = contT (acc ++ [toS x]) r := by
  cases r with
  | error e => rfl
  | ok ts => simp [contT]
/-- What is still to come. -/
def Inv (s : ByteArray) (acc : List PF.S77) (j : Nat) : Prop := gapS false (rest s j) = rest s j ∧ contT acc (lexN (s.size + 1) j acc.length (rest s j)) = lexT s
theorem Inv.start (s : ByteArray) (h : ¬ 20000 < s.size) : Inv s [] (gapE s 0) := by
  obtain ⟨h1, h2, h3⟩ := rest_gapE s 0 (Nat.zero_le _)
  have h0 : rest s 0 = s.data.toList := rfl
  refine ⟨by rw [h3, gapS_idem], ?_⟩
  unfold lexT
  rw [if_neg h]
  have e : lexN (s.size + 1) (gapE s 0) 0 (rest s (gapE s 0)) = lex s.data.toList := by
    unfold lex
    have h4 := lexN_skip (rest s 0).length 0 0 (rest s 0)
    have hl := rest_length s 0
    have hle := gapS_le false (rest s 0)
    rw [← h0, h4, h3]
    rw [hl]
    unfold gapE
    have e1 : 0 + (s.size - 0 - (gapS false (rest s 0)).length) = s.size - (gapS false (rest s 0)).length := by omega
    rw [e1]
    rfl
  rw [show ([] : List PF.S77).length = 0 from rfl, e]
  cases lex s.data.toList with
  | error e => rfl
  | ok ts => simp [contT]
theorem Inv.error {s : ByteArray} {acc : List PF.S77} {j e : Nat} {c : UInt8} {r : List UInt8} (h : Inv s acc j) (hr : rest s j = c :: r) (ht : tok (rest s j) = .error e) : lexT s = ([], (e : Int), (j : Int)) := by
  obtain ⟨h1, h2⟩ := h
  rw [← h2]
  rw [hr] at h1 ht ⊢
  simp only [lexN, h1, ht, contT, Nat.sub_self, Nat.add_zero]
theorem Inv.full {s : ByteArray} {acc : List PF.S77} {j : Nat} {t : Tk} {c : UInt8} {r : List UInt8} (h : Inv s acc j) (hr : rest s j = c :: r) (ht : tok (rest s j) = .ok t) (hn : acc.length = 5000) : lexT s = ([], (2 : Int), (j : Int)) := by
  obtain ⟨h1, h2⟩ := h
  rw [← h2]
  rw [hr] at h1 ht ⊢
  simp only [lexN, h1, ht, hn, if_true, contT, Nat.sub_self, Nat.add_zero]
  rfl
theorem Inv.done {s : ByteArray} {acc : List PF.S77} {j : Nat} (h : Inv s acc j) (hr : rest s j = []) : lexT s = (acc, 0, 0) := by
  obtain ⟨h1, h2⟩ := h
  rw [← h2, hr]
  simp [lexN, gapS, contT]
theorem Inv.next {s : ByteArray} {acc : List PF.S77} {j : Nat} {t : Tk} {c : UInt8} {r : List UInt8} (h : Inv s acc j) (hr : rest s j = c :: r) (ht : tok (rest s j) = .ok t) (hn : ¬ acc.length = 5000) : 0 < t.width ∧ j + t.width ≤ s.size ∧ Inv s (acc ++ [toS (j, t)]) (gapE s (j + t.width)) := by
  obtain ⟨h1, h2⟩ := h
  obtain ⟨w1, w2⟩ := tok_width ht
  rw [rest_length] at w2
  have hle : j + t.width ≤ s.size := by omega
  obtain ⟨g1, g2, g3⟩ := rest_gapE s (j + t.width) hle
  refine ⟨w1, hle, by rw [g3, gapS_idem], ?_⟩
  rw [← h2]
  have hl := rest_length s j
  have hd : (c :: r).drop t.width = rest s (j + t.width) := by rw [← hr, rest_drop]
  have e1 : lexN (s.size + 1) j acc.length (rest s j) = match lexN s.size (j + t.width) (acc.length + 1) (rest s (j + t.width)) with | .error e => .error e | .ok ts => .ok ((j, t) :: ts) := by
    rw [hr] at h1 ht ⊢
    simp only [lexN, h1, ht, if_neg hn, Nat.sub_self, Nat.add_zero, hd]
    cases lexN s.size (j + t.width) (acc.length + 1) (rest s (j + t.width)) <;> rfl
  rw [e1, contT_step, List.length_append, List.length_singleton]
  congr 1
  have hl2 := rest_length s (j + t.width)
  have hg := gapS_le false (rest s (j + t.width))
  have h4 := lexN_skip s.size (j + t.width) (acc.length + 1) (rest s (j + t.width))
  rw [lexN_fuel s.size (s.size + 1) _ _ _ (by omega) (by omega), h4, g3, hl2]
  have e5 : j + t.width + (s.size - (j + t.width) - (gapS false (rest s (j + t.width))).length) = gapE s (j + t.width) := by
    unfold gapE
    omega
  rw [e5]

theorem next_err (g : Nat) (s : ByteArray) (i er : Nat) (w : World) (hs : s.size ≤ 1000000) (hg : Scan w g s) (hi : i < s.size) (ht : tok (rest s i) = .error er) :
    Calls Tryd.prog 42 #[.pointer (some ⟨g, 0, none⟩), .int .i64 i] w fun e w' => e = .returned (.tuple #[.agg #[.int .i64 0, .int .i64 0, .int .i64 0, .string ⟨#[]⟩], .int .i64 0, .int .i64 er]) ∧ Below w.heap.size w w' :=
  (next_any g s i w hs hg hi).mono fun e w' h => by
    obtain ⟨h1, h2⟩ := h
    rw [ht] at h1
    exact ⟨h1, h2⟩
theorem next_ok (g : Nat) (s : ByteArray) (i : Nat) (t : Tk) (w : World) (hs : s.size ≤ 1000000) (hg : Scan w g s) (hi : i < s.size) (ht : tok (rest s i) = .ok t) (k n e : Nat) (x : ByteArray) (hk : t.kind = k) (hn : t.n = n) (hx : bs t.text = x) (he : i + t.width = e) :
    Calls Tryd.prog 42 #[.pointer (some ⟨g, 0, none⟩), .int .i64 i] w fun e' w' => e' = .returned (.tuple #[.agg #[.int .i64 k, .int .i64 i, .int .i64 n, .string x], .int .i64 e, .int .i64 0]) ∧ Below w.heap.size w w' :=
  (next_any g s i w hs hg hi).mono fun e' w' h => by
    obtain ⟨h1, h2⟩ := h
    rw [ht] at h1
    subst hk hn hx he
    exact ⟨h1, h2⟩

set_option maxHeartbeats 4000000 in
set_option maxRecDepth 1000000 in
theorem lex_short (s : ByteArray) (w : World) (h : ¬ 20000 < s.size) : Calls Tryd.prog 21 #[.string s] w (LexSays (lexT s) w) := by
  have h1 : decide (20000 < s.size) = false := decide_eq_false h
  have h2 : decide (20000 < (s.size : Int)) = false := decide_eq_false (by omega)
  go_enter Tryd.func21, Tryd.ntmps21
  go_wp2_with (first
    | (go_at_call 40; refine (classes_any _).mono ?_; rintro e w1 ⟨rfl, hb1⟩; have HB1 := Lib.hid hb1; clear hb1)
    | (refine wp_build44 rfl _ _ s rfl rfl rfl ?_)
    | (refine wpList_store_row rfl 86 _ _ rfl w1.heap.size (scanL s).toArray rfl rfl 86 Tryd.zeroCells86 (heap_alloc_new _ _) (by rw [scanL_size]; exact info44) (by rw [scanL_size, size44]) (scanL_one s) ?_))
  obtain ⟨g, hg⟩ : ∃ g, w1.heap.size = g := ⟨_, rfl⟩
  obtain ⟨W, hW⟩ : ∃ W, (w1.alloc (Obj.cells Tryd.zeroCells86 86)).setRow w1.heap.size (scanL s).toArray = W := ⟨_, rfl⟩
  have hle : w.heap.size ≤ g := by rw [← hg]; exact HB1.out.size
  have HS : Hid (W.heap[g]? = some (.cells (scanL s).toArray 86 (0, 0))) := Lib.hid (by rw [← hW, ← hg]; exact setRow_heap _ _ _ _ _ _ (heap_alloc_new _ _))
  have HBW : Hid (Below w.heap.size w W) := Lib.hid (by rw [← hW]; exact below_setRow (below_alloc HB1.out _) HB1.out.size _)
  rw [hW, hg]
  clear hW
  have hs : s.size ≤ 20000 := by omega
  go_wp2_with (go_at_call 41; refine (gap_any g s 0 W (by omega) (scan_of HS.out) (Nat.zero_le _)).mono ?_; rintro e w2 ⟨rfl, hb2⟩; have HB2 := Lib.hid hb2; clear hb2)
  go_loopw [6, 7] (fun v6 v7 wr => ∃ (acc : List PF.S77) (j : Nat), v7 = .int .i64 j ∧ j ≤ s.size ∧ acc.length ≤ 5000 ∧ Aside0 (Kd.R PF.k77 77 wr w.heap.size (fun k => k ≠ g) v6 acc) ∧ Aside0 (Below w.heap.size w wr) ∧ Aside0 (wr.heap[g]? = some (.cells (scanL s).toArray 86 (0, 0))) ∧ Aside0 (Inv s acc j)) (fun _ v7 _ => s.size - (intOf v7).toNat)
  case atStart =>
    exact ⟨[], gapE s 0, rfl, (rest_gapE s 0 (Nat.zero_le _)).1, by simp, ⟨Kd.R_nil _ _ _ _ _⟩, ⟨below_step HBW.out HB2.out⟩, ⟨blk_below HS.out HB2.out⟩, ⟨Inv.start s h⟩⟩
  case round =>
    obtain ⟨acc, j, rfl, hj, hal, HR, HB, HG, HI⟩ := hrel
    have hgl : g < wr.heap.size := blk_lt HG.out
    by_cases hlt : j < s.size
    · have hrc := rest_cons s j hlt
      obtain ⟨r, hr⟩ : ∃ r, rest s (j + 1) = r := ⟨_, rfl⟩
      obtain ⟨c, hc⟩ : ∃ c, s[j]'hlt = c := ⟨_, rfl⟩
      rw [hr, hc] at hrc
      have HRC := Lib.hid hrc
      clear hrc hr hc
      cases ht : tok (rest s j) with
      | error er =>
        have HE := Lib.hid (HI.out.error HRC.out ht)
        have HT := Lib.hid ht
        have her := tok_error ht
        clear ht
        have hne : ((er : Int) == 0) = false := beq_eq_false_iff_ne.2 (by omega)
        have hne2 : ((er : Int) != 0) = true := by rw [bne_iff_ne]; omega
        go_wp2_with (go_at_call 42; refine (next_err g s j er _ (by omega) (scan_of HG.out) hlt HT.out).mono ?_; rintro e w3 ⟨rfl, hb3⟩; have HB3 := Lib.hid hb3; clear hb3)
        go_ret3
        rw [HE.out]
        exact ⟨_, rfl, Kd.R_nil _ _ _ _ _, by repeat (first | exact below_step HB.out HB3.out | apply below_alloc | apply pw_below_drewN)⟩
      | ok t =>
        have HT := Lib.hid ht
        obtain ⟨k, hk⟩ : ∃ k, t.kind = k := ⟨_, rfl⟩
        obtain ⟨n, hn⟩ : ∃ n, t.n = n := ⟨_, rfl⟩
        obtain ⟨x, hx⟩ : ∃ x, bs t.text = x := ⟨_, rfl⟩
        obtain ⟨q, hq⟩ : ∃ q, j + t.width = q := ⟨_, rfl⟩
        have HK := Lib.hid hk
        have HN := Lib.hid hn
        have HX := Lib.hid hx
        have HQ := Lib.hid hq
        by_cases hfull : acc.length = 5000
        · have HE := Lib.hid (HI.out.full HRC.out ht hfull)
          obtain ⟨A, cp, hv⟩ := Kd.R_slice HR.out
          have hl5 : ((acc.length : Int) == 5000) = true := beq_iff_eq.2 (by omega)
          have hl6 : (acc.length == 5000) = true := beq_iff_eq.2 hfull
          subst hv
          clear hk hn hx hq ht hfull
          go_wp2_with (go_at_call 42; refine (next_ok g s j t _ (by omega) (scan_of HG.out) hlt HT.out k n q x HK.out HN.out HX.out HQ.out).mono ?_; rintro e w3 ⟨rfl, hb3⟩; have HB3 := Lib.hid hb3; clear hb3)
          go_ret3
          rw [HE.out]
          exact ⟨_, rfl, Kd.R_nil _ _ _ _ _, by repeat (first | exact below_step HB.out HB3.out | apply below_alloc | apply pw_below_drewN)⟩
        · obtain ⟨n1, n2, n3⟩ := HI.out.next HRC.out ht hfull
          have HI2 := Lib.hid n3
          obtain ⟨q1, q2, _⟩ := rest_gapE s (j + t.width) n2
          rw [hq] at q1 q2 n2
          obtain ⟨A, cp, hv⟩ := Kd.R_slice HR.out
          have hl5 : ((acc.length : Int) == 5000) = false := beq_eq_false_iff_ne.2 (by omega)
          have hl6 : (acc.length == 5000) = false := beq_eq_false_iff_ne.2 hfull
          subst hv
          clear hk hn hx hq ht hfull n3
          go_wp2_with (first
            | (go_at_call 42; refine (next_ok g s j t _ (by omega) (scan_of HG.out) hlt HT.out k n q x HK.out HN.out HX.out HQ.out).mono ?_; rintro e w3 ⟨rfl, hb3⟩; have HB3 := Lib.hid hb3; clear hb3)
            | ((with_reducible refine gate_builtin (b := .append) (xs := #[.tmp 41, .tmp 43]) rfl ?_); at_builtin; refine Kd.R_append PF.k77 (w0 := w) w.heap.size rfl (.tmp 41) (.tmp 43) 47 77 (.agg #[(.int .i64 0), (.int .i64 0), (.int .i64 0), (.string ⟨#[]⟩)]) 40 rfl Tryd.underlying47 PF.info77 rfl (by decide) (by omega) (.slice A acc.length cp) acc (⟨k, j, n, x⟩ : PF.S77) [.int .i64 k, .int .i64 j, .int .i64 n, .string x] (fun k_ => k_ ≠ g) (fun _ => False) rfl (by first | (go_simp; done) | (go_simp; rfl)) ?aP (fun _ hk => hk.elim) ?aF ?aO ?aB ?aS ?aL ?_; (case aP => exact PF.k77_mkM _ _ _ (⟨k, j, n, x⟩ : PF.S77)); (case aF => exact (fun k_ hk => Kd.freshB (blk_alloc (blk_below HG.out HB3.out) _) k_ hk)); (case aO => exact Kd.R_alloc (Kd.R_below HR.out HB3.out) _); (case aB => exact below_alloc (below_step HB.out HB3.out) _); (case aS => exact below_size (below_alloc (below_step HB.out HB3.out) _)); (case aL => omega); intro v1 w4 ho hb4 hg4 hat; have HG4 := Lib.hid (blk_grown (blk_alloc (blk_below HG.out HB3.out) _) hg4 (Kd.R_away HR.out (fun _ hk => hk))); have HO4 := Lib.hid ho; have HB4 := Lib.hid hb4; clear ho hb4 hg4 hat)
            | (go_at_call 41; refine (gap_any g s q _ (by omega) (scan_of HG4.out) (by omega)).mono ?_; rintro e w5 ⟨rfl, hb5⟩; have HB5 := Lib.hid hb5; clear hb5))
          refine ⟨⟨acc ++ [(⟨k, j, n, x⟩ : PF.S77)], gapE s q, rfl, q1, by have h7 := beq_eq_false_iff_ne.1 hl6; simp only [List.length_append, List.length_singleton]; omega, ⟨Kd.R_below HO4.out HB5.out⟩, ⟨below_step HB4.out HB5.out⟩, ⟨blk_below HG4.out HB5.out⟩, ⟨?_⟩⟩, ?_⟩
          · have h5 := HI2.out
            have e5 : toS (j, t) = (⟨k, j, n, x⟩ : PF.S77) := by unfold toS; rw [HK.out, HN.out, HX.out]
            rw [e5, HQ.out] at h5
            exact h5
          · have h6 := HQ.out
            simp only [intOf, Int.toNat_natCast]
            omega
    · have hd : decide ((j : Int) < (s.size : Int)) = false := decide_eq_false (by omega)
      have hd2 : decide (j < s.size) = false := decide_eq_false hlt
      have HE := Lib.hid (HI.out.done (rest_nil s j hlt))
      go_wp2_with fail
      go_ret3
      rw [HE.out]
      exact ⟨_, rfl, Kd.R_mono HR.out (fun _ _ => trivial), HB.out⟩

theorem lex_any (s : ByteArray) (w : World) : Calls Tryd.prog 21 #[.string s] w (LexSays (lexT s) w) := by
  by_cases h : 20000 < s.size
  · exact lex_long s w h
  · exact lex_short s w h
end Go.Proofs.YtgddmfphlhlcjaaDoor.LxW
namespace Go.Proofs.YtgddmfphlhlcjaaDoor.PF
open Go.RowKit Go.Proofs.YtgddmfphlhlcjaaDoorW.PrintWords Go.Proofs.YtgddmfphlhlcjaaDoorW.PrintLast Go.Proofs.YtgddmfphlhlcjaaDoorW.PrintMore
/-- What lexer.Lex tells: tokens, error, offset. -/
def lexer_Lex.f (a0 : ByteArray) : Option (List S77 × Int × Int) := some (LxW.lexT a0)
theorem lexer_Lex.calls (a0 : ByteArray) (r1 : List S77) (r2 : Int) (r3 : Int) (w : World) (h : lexer_Lex.f a0 = some (r1, r2, r3)) :
    Calls Tryd.prog 21 #[.string a0] w fun e w' => ∃ v0_ : Value, e = .returned (.tuple #[v0_, .int .i64 r2, .int .i64 r3]) ∧ Kd.R k77 77 w' w.heap.size (fun _ => True) v0_ r1 ∧ Below w.heap.size w w' := by
  have e : LxW.lexT a0 = (r1, r2, r3) := Option.some.inj h
  refine (LxW.lex_any a0 w).mono fun e' w' h' => ?_
  rw [e] at h'
  exact h'
end Go.Proofs.YtgddmfphlhlcjaaDoor.PF
namespace Go.Proofs.YtgddmfphlhlcjaaDoor.LxW
open Go.RowKit Go.Proofs.YtgddmfphlhlcjaaDoorW.PrintWords Go.Proofs.YtgddmfphlhlcjaaDoorW.PrintLast Go.Proofs.YtgddmfphlhlcjaaDoorW.PrintMore
open Go.Proofs.YtgddmfphlhlcjaaDoor Go.Proofs.YtgddmfphlhlcjaaDoor.LxP
set_option linter.unusedVariables false
set_option linter.unusedSimpArgs false

def byts (s : ByteArray) : List UInt8 := s.data.toList
theorem byts_length (s : ByteArray) : (byts s).length = s.size := data_length s
theorem byts_append (s t : ByteArray) : byts (s ++ t) = byts s ++ byts t := by
  simp [byts, ByteArray.data_append]
theorem byts_bs (l : List UInt8) : byts (bs l) = l := rfl
theorem byts_take (s : ByteArray) (n : Nat) : byts (s.extract 0 n) = (byts s).take n := by
  unfold byts
  rw [Lib.extract_data]
  simp
theorem byts_drop (s : ByteArray) (n : Nat) : byts (s.extract n s.size) = (byts s).drop n := Lib.extract_to_end s n
theorem byts_mid (s : ByteArray) (n m : Nat) : byts (s.extract n m) = ((byts s).drop n).take (m - n) := Lib.extract_data s n m
theorem byts_inj {s t : ByteArray} (h : byts s = byts t) : s = t := by
  cases s with | mk a =>
  cases t with | mk b =>
  have : a.toList = b.toList := h
  rw [Array.toList_inj.1 this]
theorem bs_byts (s : ByteArray) : bs (byts s) = s := byts_inj (byts_bs _)

theorem lexErr_two {off : Nat} {l : List UInt8} {e at' j : Nat} (h : LexErr off l e at' j) : 2 ≤ e := by
  induction h with
  | here off g c r e hg h1 h2 he => exact (tok_error he).1
  | more off g w r t e a' j hg hw h ih => exact ih
theorem lexErr_zero {o : Nat} {l : List UInt8} {e : Nat} (h : LexErr o l e o 0) : LexErr 0 l e 0 0 := by
  generalize ha : o = a' at h
  generalize hj : 0 = j at h
  have key : ∀ {off : Nat} {l : List UInt8} {e at' j : Nat}, LexErr off l e at' j → at' = off → j = 0 → LexErr 0 l e 0 0 := by
    intro off l e at' j h h1 h2
    cases h with
    | here _ g c r _ hg i1 i2 he =>
      obtain rfl : g = [] := List.eq_nil_of_length_eq_zero (by omega)
      have := LexErr.here 0 [] c r e rfl i1 i2 he
      simpa using this
    | more => omega
  subst hj
  exact key h rfl rfl

theorem lexT_ok {s : ByteArray} {ts : List (Nat × Tk)} (h : LexAt 0 (byts s) ts) (hs : s.size ≤ 5000) : lexT s = (ts.map toS, 0, 0) := by
  unfold lexT
  have e : lex s.data.toList = .ok ts := lex_ok h (by rw [data_length]; exact hs)
  rw [if_neg (by omega), e]
theorem lexT_bad {s : ByteArray} {e at' j : Nat} (h : LexErr 0 (byts s) e at' j) (hs : s.size ≤ 5000) : lexT s = ([], (e : Int), (at' : Int)) := by
  unfold lexT
  have e : lex s.data.toList = .error (e, at') := lex_bad h (by rw [data_length]; exact hs)
  rw [if_neg (by omega), e]
theorem lexT_cases (s : ByteArray) (hs : s.size ≤ 5000) : (∃ ts, LexAt 0 (byts s) ts ∧ lexT s = (ts.map toS, 0, 0)) ∨ ∃ e at' j, LexErr 0 (byts s) e at' j ∧ 2 ≤ e ∧ lexT s = ([], (e : Int), (at' : Int)) := by
  rcases lex_small (byts s) (by rw [byts_length]; exact hs) with ⟨ts, h, _⟩ | ⟨e, a, j, h, _⟩
  · exact .inl ⟨ts, h, lexT_ok h hs⟩
  · exact .inr ⟨e, a, j, h, lexErr_two h, lexT_bad h hs⟩
end Go.Proofs.YtgddmfphlhlcjaaDoor.LxW
namespace Go.Proofs.YtgddmfphlhlcjaaDoor.FcP
open Go.Proofs.YtgddmfphlhlcjaaDoor.LxP
set_option linter.unusedVariables false
set_option linter.unusedSimpArgs false

structure Fc where
  name : List UInt8
  kind : Int
  lo : Int
  hi : Int
deriving DecidableEq

abbrev Ts := List (Nat × Tk)

def nameOk (s : List UInt8) : Bool := (match s with | [] => false | c :: _ => isL c) && s.all isW && decide (s.length ≤ 24)
def factOk (f : Fc) : Bool := (f.kind == 1 && f.lo == 0 && f.hi == 1 || f.kind == 2 && decide (0 ≤ f.lo) && decide (f.lo ≤ f.hi) && decide (f.hi ≤ 1000000)) && nameOk f.name
def Valid (d : List Fc) : Prop := (∀ f ∈ d, factOk f = true) ∧ (d.map (·.name)).Nodup ∧ d.length ≤ 60
instance (d : List Fc) : Decidable (Valid d) := by unfold Valid; infer_instance

def within : List Fc → List Int → Bool
  | [], [] => true
  | f :: d, x :: c => decide (f.lo ≤ x) && decide (x ≤ f.hi) && within d c
  | _, _ => false
def Fits (d : List Fc) (c : List Int) : Prop := Valid d ∧ within d c = true
instance (d : List Fc) (c : List Int) : Decidable (Fits d c) := by unfold Fits; infer_instance

def index (d : List Fc) (n : List UInt8) : Option Nat := d.findIdx? (fun f => f.name == n)

/-- The decimal digits of a number; k: more than there are digits. -/
def decN : Nat → Nat → List UInt8
  | 0, n => [UInt8.ofNat (48 + n % 10)]
  | k + 1, n => if n < 10 then [UInt8.ofNat (48 + n)] else decN k (n / 10) ++ [UInt8.ofNat (48 + n % 10)]
def dec (n : Nat) : List UInt8 := decN 20 n

def flagW : List UInt8 := [102, 108, 97, 103]
def numW : List UInt8 := [110, 117, 109, 98, 101, 114]
def toW : List UInt8 := [116, 111]

def line (f : Fc) : List UInt8 := f.name ++ (if f.kind = 1 then 32 :: (flagW ++ [59, 10]) else 32 :: (numW ++ 32 :: (dec f.lo.toNat ++ 32 :: (toW ++ 32 :: (dec f.hi.toNat ++ [59, 10])))))
def text (d : List Fc) : List UInt8 := if Valid d then d.flatMap line else []
def entry (f : Fc) (x : Int) : List UInt8 := f.name ++ 32 :: 61 :: 32 :: dec x.toNat
def entries : List Fc → List Int → List (List UInt8)
  | f :: d, x :: c => entry f x :: entries d c
  | _, _ => []
def joined : List (List UInt8) → List UInt8
  | [] => []
  | [a] => a
  | a :: b :: r => a ++ 44 :: 32 :: joined (b :: r)
def caseText (d : List Fc) (c : List Int) : List UInt8 := if Fits d c then joined (entries d c) else []

/-! the readers -/
def take (k : Nat) (x : List UInt8) (en : Nat) : Ts → Except (Nat × Nat) ((Nat × Tk) × Ts)
  | [] => .error (6, en)
  | t :: r => if t.2.kind ≠ k ∨ (x ≠ [] ∧ t.2.text ≠ x) then .error (5, t.1) else .ok (t, r)

def spanS (en : Nat) (ts : Ts) : Except (Nat × Nat) ((Nat × Nat) × Ts) :=
  (take 2 [] en ts).bind fun a =>
  if 1000000 < a.1.2.n then .error (10, a.1.1) else
  (take 1 toW en a.2).bind fun b =>
  (take 2 [] en b.2).bind fun c =>
  if 1000000 < c.1.2.n ∨ c.1.2.n < a.1.2.n then .error (10, c.1.1) else .ok ((a.1.2.n, c.1.2.n), c.2)

def factS (en : Nat) (d : List Fc) (ts : Ts) : Except (Nat × Nat) (Fc × Ts) :=
  (take 1 [] en ts).bind fun a =>
  if (index d a.1.2.text).isSome then .error (9, a.1.1) else
  if d.length = 60 then .error (2, a.1.1) else
  (take 1 [] en a.2).bind fun b =>
  if b.1.2.text = flagW then (take 4 [59] en b.2).bind fun z => .ok (⟨a.1.2.text, 1, 0, 1⟩, z.2)
  else if b.1.2.text = numW then (spanS en b.2).bind fun s => (take 4 [59] en s.2).bind fun z => .ok (⟨a.1.2.text, 2, s.1.1, s.1.2⟩, z.2)
  else .error (5, b.1.1)

def parseN (en : Nat) : Nat → List Fc → Ts → Except (Nat × Nat) (List Fc)
  | _, d, [] => .ok d
  | 0, d, _ :: _ => .ok d
  | k + 1, d, t :: ts => (factS en d (t :: ts)).bind fun r => parseN en k (d ++ [r.1]) r.2
def parse (en : Nat) (ts : Ts) : Except (Nat × Nat) (List Fc) := parseN en ts.length [] ts

def commaS (en : Nat) (first : Bool) (ts : Ts) : Except (Nat × Nat) Ts := if first then .ok ts else (take 4 [44] en ts).bind fun z => .ok z.2
def caseS (d : List Fc) (en : Nat) (first : Bool) (v : List (Option Int)) (ts : Ts) : Except (Nat × Nat) (List (Option Int) × Ts) :=
  (commaS en first ts).bind fun us =>
  (take 1 [] en us).bind fun a =>
  match index d a.1.2.text with
  | none => .error (7, a.1.1)
  | some i =>
    if (v.getD i none).isSome then .error (9, a.1.1) else
    (take 4 [61] en a.2).bind fun b =>
    (take 2 [] en b.2).bind fun n =>
    if (n.1.2.n : Int) < (d.getD i ⟨[], 0, 0, 0⟩).lo ∨ (d.getD i ⟨[], 0, 0, 0⟩).hi < (n.1.2.n : Int) then .error (10, n.1.1) else .ok (v.set i (some (n.1.2.n : Int)), n.2)
def caseEnd (en : Nat) (v : List (Option Int)) : Except (Nat × Nat) (List Int) := if v.any (·.isNone) then .error (11, en) else .ok (v.map (·.getD 0))
def caseN (d : List Fc) (en : Nat) : Nat → Bool → List (Option Int) → Ts → Except (Nat × Nat) (List Int)
  | _, _, v, [] => caseEnd en v
  | 0, _, v, _ :: _ => caseEnd en v
  | k + 1, first, v, t :: ts => (caseS d en first v (t :: ts)).bind fun r => caseN d en k false r.1 r.2
def parseCase (d : List Fc) (en : Nat) (ts : Ts) : Except (Nat × Nat) (List Int) := caseN d en ts.length true (List.replicate d.length none) ts

/-! two readings side by side -/
def RelE {α β : Type} (R : α → β → Prop) : Except (Nat × Nat) α → Except (Nat × Nat) β → Prop
  | .error a, .error b => a.1 = b.1
  | .ok a, .ok b => R a b
  | _, _ => False
theorem RelE.bind {α β γ δ : Type} {R : α → β → Prop} {S : γ → δ → Prop} {x : Except (Nat × Nat) α} {y : Except (Nat × Nat) β} {f : α → Except (Nat × Nat) γ} {g : β → Except (Nat × Nat) δ}
    (h : RelE R x y) (k : ∀ a b, R a b → RelE S (f a) (g b)) : RelE S (x.bind f) (y.bind g) := by
  cases x <;> cases y <;> simp only [RelE] at h
  · exact h
  · exact k _ _ h
theorem RelE.ite {α β : Type} {R : α → β → Prop} {p q : Prop} [Decidable p] [Decidable q] {x x' : Except (Nat × Nat) α} {y y' : Except (Nat × Nat) β} (hpq : p ↔ q) (h : RelE R x y) (h' : RelE R x' y') : RelE R (if p then x else x') (if q then y else y') := by
  by_cases hp : p
  · rw [if_pos hp, if_pos (hpq.1 hp)]; exact h
  · rw [if_neg hp, if_neg (fun hq => hp (hpq.2 hq))]; exact h'
def SameTk (ts us : Ts) : Prop := ts.map (·.2) = us.map (·.2)
theorem take_rel (k : Nat) (x : List UInt8) (en en' : Nat) {ts us : Ts} (h : SameTk ts us) : RelE (fun a b => a.1.2 = b.1.2 ∧ SameTk a.2 b.2) (take k x en ts) (take k x en' us) := by
  unfold SameTk at h
  cases ts with
  | nil => cases us with
    | nil => rfl
    | cons u us => simp at h
  | cons t ts => cases us with
    | nil => simp at h
    | cons u us =>
      simp only [List.map_cons, List.cons.injEq] at h
      simp only [take]
      rw [← h.1]
      by_cases hc : t.2.kind ≠ k ∨ (x ≠ [] ∧ t.2.text ≠ x)
      · rw [if_pos hc, if_pos hc]; rfl
      · rw [if_neg hc, if_neg hc]; exact h
theorem spanS_rel (en en' : Nat) {ts us : Ts} (h : SameTk ts us) : RelE (fun a b => a.1 = b.1 ∧ SameTk a.2 b.2) (spanS en ts) (spanS en' us) := by
  refine (take_rel _ _ en en' h).bind fun a a' ha => ?_
  rw [ha.1]
  refine RelE.ite Iff.rfl rfl ?_
  refine (take_rel _ _ en en' ha.2).bind fun b b' hb => ?_
  refine (take_rel _ _ en en' hb.2).bind fun c c' hc => ?_
  rw [hc.1]
  exact RelE.ite Iff.rfl rfl ⟨rfl, hc.2⟩
theorem factS_rel (en en' : Nat) (d : List Fc) {ts us : Ts} (h : SameTk ts us) : RelE (fun a b => a.1 = b.1 ∧ SameTk a.2 b.2) (factS en d ts) (factS en' d us) := by
  refine (take_rel _ _ en en' h).bind fun a a' ha => ?_
  rw [ha.1]
  refine RelE.ite Iff.rfl rfl (RelE.ite Iff.rfl rfl ?_)
  refine (take_rel _ _ en en' ha.2).bind fun b b' hb => ?_
  rw [hb.1]
  refine RelE.ite Iff.rfl ?_ (RelE.ite Iff.rfl ?_ rfl)
  · exact (take_rel _ _ en en' hb.2).bind fun z z' hz => ⟨rfl, hz.2⟩
  · refine (spanS_rel en en' hb.2).bind fun s s' hs => ?_
    rw [hs.1]
    exact (take_rel _ _ en en' hs.2).bind fun z z' hz => ⟨rfl, hz.2⟩
theorem parseN_rel (en en' : Nat) : ∀ (k : Nat) (d : List Fc) (ts us : Ts), SameTk ts us → RelE (fun a b => a = b) (parseN en k d ts) (parseN en' k d us)
  | k, d, [], [], _ => by cases k <;> rfl
  | k, d, [], u :: us, h => by simp [SameTk] at h
  | k, d, t :: ts, [], h => by simp [SameTk] at h
  | 0, d, t :: ts, u :: us, h => rfl
  | k + 1, d, t :: ts, u :: us, h => by
    refine (factS_rel en en' d h).bind fun a b hab => ?_
    rw [hab.1]
    exact parseN_rel en en' k _ _ _ hab.2
theorem parse_rel (en en' : Nat) {ts us : Ts} (h : SameTk ts us) : RelE (fun a b => a = b) (parse en ts) (parse en' us) := by
  have hl : ts.length = us.length := by have := congrArg List.length h; simpa using this
  unfold parse
  rw [hl]
  exact parseN_rel en en' _ _ _ _ h
theorem caseS_rel (d : List Fc) (en en' : Nat) (first : Bool) (v : List (Option Int)) {ts us : Ts} (h : SameTk ts us) : RelE (fun a b => a.1 = b.1 ∧ SameTk a.2 b.2) (caseS d en first v ts) (caseS d en' first v us) := by
  have hc : RelE SameTk (commaS en first ts) (commaS en' first us) := by
    unfold commaS
    refine RelE.ite Iff.rfl h ?_
    exact (take_rel _ _ en en' h).bind fun z z' hz => hz.2
  refine hc.bind fun us us' hu => ?_
  refine (take_rel _ _ en en' hu).bind fun a a' ha => ?_
  rw [ha.1]
  cases index d a'.1.2.text with
  | none => rfl
  | some i =>
    refine RelE.ite Iff.rfl rfl ?_
    refine (take_rel _ _ en en' ha.2).bind fun b b' hb => ?_
    refine (take_rel _ _ en en' hb.2).bind fun n n' hn => ?_
    rw [hn.1]
    exact RelE.ite Iff.rfl rfl ⟨rfl, hn.2⟩
theorem caseEnd_rel (en en' : Nat) (v : List (Option Int)) : RelE (fun a b => a = b) (caseEnd en v) (caseEnd en' v) := by
  unfold caseEnd
  exact RelE.ite Iff.rfl rfl rfl
theorem caseN_rel (d : List Fc) (en en' : Nat) : ∀ (k : Nat) (first : Bool) (v : List (Option Int)) (ts us : Ts), SameTk ts us → RelE (fun a b => a = b) (caseN d en k first v ts) (caseN d en' k first v us)
  | k, f, v, [], [], _ => by cases k <;> exact caseEnd_rel en en' v
  | k, f, v, [], u :: us, h => by simp [SameTk] at h
  | k, f, v, t :: ts, [], h => by simp [SameTk] at h
  | 0, f, v, t :: ts, u :: us, h => caseEnd_rel en en' v
  | k + 1, f, v, t :: ts, u :: us, h => by
    refine (caseS_rel d en en' f v h).bind fun a b hab => ?_
    rw [hab.1]
    exact caseN_rel d en en' k _ _ _ _ hab.2
theorem parseCase_rel (d : List Fc) (en en' : Nat) {ts us : Ts} (h : SameTk ts us) : RelE (fun a b => a = b) (parseCase d en ts) (parseCase d en' us) := by
  have hl : ts.length = us.length := by have := congrArg List.length h; simpa using this
  unfold parseCase
  rw [hl]
  exact caseN_rel d en en' _ _ _ _ _ h

/-! what a reader's answer satisfies -/
def OkE {α : Type} (E : Nat × Nat → Prop) (R : α → Prop) : Except (Nat × Nat) α → Prop
  | .error a => E a
  | .ok a => R a
theorem OkE.bind {α γ : Type} {E : Nat × Nat → Prop} {R : α → Prop} {S : γ → Prop} {x : Except (Nat × Nat) α} {f : α → Except (Nat × Nat) γ} (h : OkE E R x) (k : ∀ a, R a → OkE E S (f a)) : OkE E S (x.bind f) := by
  cases x with
  | error a => exact h
  | ok a => exact k a h
theorem OkE.ite {α : Type} {E : Nat × Nat → Prop} {R : α → Prop} {p : Prop} [Decidable p] {x x' : Except (Nat × Nat) α} (h : p → OkE E R x) (h' : ¬ p → OkE E R x') : OkE E R (if p then x else x') := by
  by_cases hp : p
  · rw [if_pos hp]; exact h hp
  · rw [if_neg hp]; exact h' hp
/-- What the lexer's tokens satisfy: a name is a name, an offset is within the text. -/
def Good (en : Nat) (ts : Ts) : Prop := ∀ p ∈ ts, p.1 ≤ en ∧ (p.2.kind = 1 → nameOk p.2.text = true)
def Bd (en : Nat) (a : Nat × Nat) : Prop := a.2 ≤ en ∧ 2 ≤ a.1
theorem take_ok (k : Nat) (x : List UInt8) (en : Nat) {ts : Ts} (h : Good en ts) : OkE (Bd en) (fun a => (a.1.1 ≤ en ∧ (k = 1 → nameOk a.1.2.text = true) ∧ a.1.2.kind = k) ∧ Good en a.2 ∧ a.2.length + 1 = ts.length) (take k x en ts) := by
  cases ts with
  | nil => exact ⟨Nat.le_refl _, by show 2 ≤ 6; decide⟩
  | cons t ts =>
    have ht := h t (List.mem_cons_self ..)
    have hr : Good en ts := fun p hp => h p (List.mem_cons_of_mem _ hp)
    simp only [take]
    refine OkE.ite (fun _ => ⟨ht.1, by show 2 ≤ 5; decide⟩) (fun hn => ?_)
    have hk : t.2.kind = k := by
      by_cases hk : t.2.kind = k
      · exact hk
      · exact absurd (Or.inl hk) hn
    exact ⟨⟨ht.1, fun e => ht.2 (hk.trans e), hk⟩, hr, rfl⟩

theorem index_none {d : List Fc} {n : List UInt8} (h : ¬ (index d n).isSome = true) : ∀ f ∈ d, f.name ≠ n := by
  intro f hf he
  apply h
  unfold index
  rw [List.findIdx?_isSome, List.any_eq_true]
  exact ⟨f, hf, by simp [he]⟩

def Part (d : List Fc) : Prop := (∀ f ∈ d, factOk f = true) ∧ (d.map (·.name)).Nodup ∧ d.length ≤ 60
theorem factS_ok (en : Nat) {d : List Fc} (hd : Part d) {ts : Ts} (h : Good en ts) : OkE (Bd en) (fun r => Part (d ++ [r.1]) ∧ Good en r.2 ∧ r.2.length < ts.length) (factS en d ts) := by
  refine (take_ok 1 [] en h).bind fun a ha => ?_
  obtain ⟨⟨ha1, ha2, ha5⟩, ha3, ha4⟩ := ha
  refine OkE.ite (fun _ => ⟨ha1, by show 2 ≤ 9; decide⟩) (fun hi => ?_)
  refine OkE.ite (fun _ => ⟨ha1, by show 2 ≤ 2; decide⟩) (fun hl => ?_)
  have hn := ha2 rfl
  have step : ∀ f : Fc, f.name = a.1.2.text → factOk f = true → Part (d ++ [f]) := by
    intro f e hf
    obtain ⟨d1, d2, d3⟩ := hd
    refine ⟨?_, ?_, by rw [List.length_append, List.length_singleton]; omega⟩
    · intro g hg
      rcases List.mem_append.1 hg with hg | hg
      · exact d1 g hg
      · rw [List.mem_singleton.1 hg]; exact hf
    · rw [List.map_append, List.nodup_append]
      refine ⟨d2, by simp, ?_⟩
      intro x hx y hy
      obtain ⟨g, hg, rfl⟩ := List.mem_map.1 hx
      rw [List.map_singleton, List.mem_singleton] at hy
      rw [hy, e]
      exact index_none hi g hg
  refine (take_ok 1 [] en ha3).bind fun b hb => ?_
  obtain ⟨⟨hb1, hb2, hb5⟩, hb3, hb4⟩ := hb
  refine OkE.ite (fun _ => ?_) (fun _ => OkE.ite (fun _ => ?_) (fun _ => ⟨hb1, by show 2 ≤ 5; decide⟩))
  · refine (take_ok 4 [59] en hb3).bind fun z hz => ?_
    exact ⟨step _ rfl (by simp [factOk, hn]), hz.2.1, by have := hz.2.2; show z.2.length < ts.length; omega⟩
  · have hs : OkE (Bd en) (fun s => s.1.1 ≤ s.1.2 ∧ s.1.2 ≤ 1000000 ∧ Good en s.2 ∧ s.2.length < b.2.length) (spanS en b.2) := by
      refine (take_ok 2 [] en hb3).bind fun a ha => ?_
      refine OkE.ite (fun _ => ⟨ha.1.1, by show 2 ≤ 10; decide⟩) (fun h1 => ?_)
      refine (take_ok 1 toW en ha.2.1).bind fun b' hb' => ?_
      refine (take_ok 2 [] en hb'.2.1).bind fun c hc => ?_
      refine OkE.ite (fun _ => ⟨hc.1.1, by show 2 ≤ 10; decide⟩) (fun h2 => ?_)
      have := ha.2.2
      have := hb'.2.2
      have := hc.2.2
      exact ⟨by show a.1.2.n ≤ c.1.2.n; omega, by show c.1.2.n ≤ 1000000; omega, hc.2.1, by show c.2.length < b.2.length; omega⟩
    refine hs.bind fun s hs => ?_
    obtain ⟨s1, s2, s3, s4⟩ := hs
    refine (take_ok 4 [59] en s3).bind fun z hz => ?_
    exact ⟨step _ rfl (by
      have e1 : decide ((0 : Int) ≤ (s.1.1 : Int)) = true := decide_eq_true (by omega)
      have e2 : decide ((s.1.1 : Int) ≤ (s.1.2 : Int)) = true := decide_eq_true (by omega)
      have e3 : decide ((s.1.2 : Int) ≤ 1000000) = true := decide_eq_true (by omega)
      simp only [factOk, hn, e1, e2, e3]
      rfl), hz.2.1, by have := hz.2.2; show z.2.length < ts.length; omega⟩
theorem parseN_ok (en : Nat) : ∀ (k : Nat) (d : List Fc) (ts : Ts), Part d → Good en ts → OkE (Bd en) Valid (parseN en k d ts)
  | k, d, [], hd, _ => by cases k <;> exact hd
  | 0, d, t :: ts, hd, _ => hd
  | k + 1, d, t :: ts, hd, h => by
    refine (factS_ok en hd h).bind fun r hr => ?_
    exact parseN_ok en k _ _ hr.1 hr.2.1
theorem parse_ok (en : Nat) {ts : Ts} (h : Good en ts) : OkE (Bd en) Valid (parse en ts) := parseN_ok en _ _ _ ⟨by simp, by simp, by simp⟩ h

/-! the lexer's tokens are good -/
theorem lexAt_good {off : Nat} {l : List UInt8} {ts : Ts} (h : LexAt off l ts) : ∀ en, off + l.length ≤ en → Good en ts := by
  induction h with
  | done off g b hg => intro en he p hp; cases hp
  | more off g w r t ts hg hw h ih =>
    intro en he
    simp only [List.length_append] at he
    intro p hp
    rcases List.mem_cons.1 hp with rfl | hp
    · refine ⟨by show off + g.length ≤ en; omega, ?_⟩
      cases hw with
      | name c w _ hc hw hn hr =>
        intro _
        simp only [nameOk, hc, Bool.true_and, Bool.and_eq_true, List.all_eq_true, decide_eq_true_eq]
        exact ⟨hw, hn⟩
      | num c w _ hw hn hr => intro e; cases e
      | str b _ hb hn => intro e; cases e
      | two c _ hc => intro e; cases e
      | angle c _ hc hr => intro e; cases e
      | sym c _ hc => intro e; cases e
    · exact ih en (by omega) p hp

end Go.Proofs.YtgddmfphlhlcjaaDoor.FcP
