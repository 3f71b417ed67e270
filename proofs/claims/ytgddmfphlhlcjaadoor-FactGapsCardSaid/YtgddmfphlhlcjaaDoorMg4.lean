/- The scanner's method 'gap': it returns the end of the gaps that begin at an offset.
strings.IndexAny at the two bytes that end a string's text (a quote and a line feed), for every string, be it valid UTF-8 or not.
The scanner's method 'next': it returns the token at an offset and the offset behind it, or an error, as the plain lexer tells it. -/
import Derived.Test.YtgddmfphlhlcjaaDoorMg3
import Derived.Lib.IndexLaws
import Derived.Lib.IndexBytes
import Derived.Lib.OthersKept
import Derived.Laws.Runes
import Derived.WalkMore
import Derived.Scope
import Derived.ScopeJumps
namespace Go.Proofs.YtgddmfphlhlcjaaDoor.LxW
open Go.RowKit Go.Proofs.YtgddmfphlhlcjaaDoorW.PrintWords Go.Proofs.YtgddmfphlhlcjaaDoorW.PrintLast Go.Proofs.YtgddmfphlhlcjaaDoorW.PrintMore
open Go.Proofs.YtgddmfphlhlcjaaDoor Go.Proofs.YtgddmfphlhlcjaaDoor.LxP
set_option linter.unusedVariables false
set_option linter.unusedSimpArgs false

theorem all_bytes {p : UInt8 → Prop} (h : ∀ n : Fin 256, p (UInt8.ofNat n.1)) (c : UInt8) : p c := by
  have := h ⟨c.toNat, c.toNat_lt⟩
  rwa [UInt8.ofNat_toNat] at this
theorem cls_facts : ∀ c : UInt8, (((cls c : Int) == 1) = isB c) ∧ (((cls c : Int) == 2) = (c == 35)) ∧ (((cls c : Int) == 3) = isL c) ∧ (((cls c : Int) == 4) = isD c) ∧ (((cls c : Int) == 5) = (c == 95)) ∧ (((cls c : Int) == 6) = (c == 34)) ∧ (((cls c : Int) == 7) = (c == 33)) ∧ (((cls c : Int) == 8) = (c == 60 || c == 62)) ∧ (((cls c : Int) == 9) = isS c) := all_bytes (by decide +kernel)
theorem runB (c : UInt8) : ([1] : List Int).contains (cls c : Int) = isB c := by
  rw [← (cls_facts c).1]
  simp only [List.contains, List.elem]
  cases ((cls c : Int) == 1) <;> rfl

/-- Where the gaps that begin at an offset end. -/
def gapE (s : ByteArray) (i : Nat) : Nat := s.size - (gapS false (rest s i)).length
theorem skipB : ∀ l : List UInt8, gapS false (l.drop (runN [1] l)) = gapS false l ∧ (∀ c r, l.drop (runN [1] l) = c :: r → isB c = false)
  | [] => ⟨rfl, by simp [runN]⟩
  | c :: r => by
    by_cases h : isB c = true
    · have hc := runB c
      rw [h] at hc
      rw [runN_yes hc, List.drop_succ_cons]
      obtain ⟨h1, h2⟩ := skipB r
      exact ⟨by rw [h1]; simp [gapS, h], h2⟩
    · have h' : isB c = false := by simpa using h
      have hc := runB c
      rw [h'] at hc
      rw [runN_no hc, List.drop_zero]
      exact ⟨rfl, by intro d s e; cases e; exact h'⟩
theorem gapS_le : ∀ (b : Bool) (l : List UInt8), (gapS b l).length ≤ l.length
  | b, [] => by cases b <;> simp [gapS]
  | false, c :: r => by
    simp only [gapS]
    split
    · have := gapS_le false r; simp only [List.length_cons]; omega
    · split
      · have := gapS_le true r; simp only [List.length_cons]; omega
      · exact Nat.le_refl _
  | true, c :: r => by
    simp only [gapS]
    split
    · have := gapS_le false r; simp only [List.length_cons]; omega
    · have := gapS_le true r; simp only [List.length_cons]; omega
theorem gap_in : ∀ l : List UInt8, (Lib.indexByte l 10 = -1 → gapS true l = []) ∧ (∀ o : Nat, Lib.indexByte l 10 = o → o < l.length ∧ gapS true l = gapS false (l.drop o))
  | [] => ⟨fun _ => rfl, fun o h => by simp [Lib.indexByte] at h⟩
  | c :: r => by
    obtain ⟨h1, h2⟩ := gap_in r
    have hge := Lib.indexByte_ge r 10
    unfold Lib.indexByte
    by_cases hc : (c == 10) = true
    · rw [if_pos hc]
      refine ⟨fun h => by omega, fun o ho => ?_⟩
      obtain rfl : o = 0 := by omega
      have hb : isB c = true := by simp only [isB, Bool.or_eq_true]; exact .inr hc
      exact ⟨by simp, by rw [List.drop_zero]; simp [gapS, hc, hb]⟩
    · rw [if_neg hc]
      by_cases hn : (Lib.indexByte r 10 == -1) = true
      · rw [if_pos hn]
        refine ⟨fun _ => ?_, fun o ho => by omega⟩
        simp only [gapS]
        rw [if_neg hc]
        exact h1 (by simpa using hn)
      · rw [if_neg hn]
        have hn' : Lib.indexByte r 10 ≠ -1 := by simpa using hn
        refine ⟨fun h => by omega, fun o ho => ?_⟩
        obtain ⟨q, rfl⟩ : ∃ q, o = q + 1 := ⟨o - 1, by omega⟩
        obtain ⟨h3, h4⟩ := h2 q (by omega)
        refine ⟨by simp only [List.length_cons]; omega, ?_⟩
        simp only [gapS]
        rw [if_neg hc, h4, List.drop_succ_cons]
theorem gap_hash (r : List UInt8) : (Lib.indexByte (35 :: r) 10 = -1 → gapS false (35 :: r) = []) ∧ (∀ o : Nat, Lib.indexByte (35 :: r) 10 = o → 1 ≤ o ∧ o ≤ r.length ∧ gapS false ((35 :: r).drop o) = gapS false (35 :: r)) := by
  obtain ⟨h1, h2⟩ := gap_in r
  have hge := Lib.indexByte_ge r 10
  have he : gapS false (35 :: r) = gapS true r := by simp [gapS, isB]
  unfold Lib.indexByte
  rw [if_neg (by decide), he]
  by_cases hn : (Lib.indexByte r 10 == -1) = true
  · rw [if_pos hn]
    exact ⟨fun _ => h1 (by simpa using hn), fun o ho => by omega⟩
  · rw [if_neg hn]
    have hn' : Lib.indexByte r 10 ≠ -1 := by simpa using hn
    refine ⟨fun h => by omega, fun o ho => ?_⟩
    obtain ⟨q, rfl⟩ : ∃ q, o = q + 1 := ⟨o - 1, by omega⟩
    obtain ⟨h3, h4⟩ := h2 q (by omega)
    exact ⟨by omega, by omega, by rw [List.drop_succ_cons, h4]⟩
theorem rest_drop (s : ByteArray) (i n : Nat) : (rest s i).drop n = rest s (i + n) := by unfold rest; rw [List.drop_drop]

theorem Cls.lit1 (w : World) (x : Int) : Cls (w.alloc (.cells #[.int .i64 x] 3)) w.heap.size [x] := fun j hj => by
  obtain rfl : j = 0 := by simp at hj; omega
  rw [blk_cell (blk_new w _)]
  rfl

set_option maxHeartbeats 2000000 in
theorem gap_any (g : Nat) (s : ByteArray) (i : Nat) (w : World) (hs : s.size ≤ 9223372036854775806) (hg : Scan w g s) (hi : i ≤ s.size) :
    Calls Tryd.prog 41 #[.pointer (some ⟨g, 0, none⟩), .int .i64 i] w fun e w' => e = .returned (.int .i64 ((gapE s i : Nat) : Int)) ∧ Below w.heap.size w w' := by
  have HG := Lib.hid hg
  clear hg
  go_enter Tryd.func41, Tryd.ntmps41
  go_wp2_with (go_at_call 49; refine (while_any g s i w.heap.size 1 [1] _ hs (by exact HG.out.below (below_alloc (Below.refl _ _) _)) (by simp) (by exact Cls.lit1 w 1) hi).mono ?_; rintro e w' ⟨rfl, m, rfl⟩)
  go_loopw [1] (fun v wr => ∃ (j : Nat), j ≤ s.size ∧ v = .int .i64 j ∧ Aside0 (Below w.heap.size w wr) ∧ Aside0 (gapS false (rest s j) = gapS false (rest s i)) ∧ Aside0 (∀ c r, rest s j = c :: r → isB c = false)) (fun v _ => s.size - (intOf v).toNat)
  case atStart =>
    obtain ⟨h1, h2⟩ := skipB (rest s i)
    rw [rest_drop] at h1 h2
    have h3 := runN_le [1] (rest s i)
    rw [rest_length] at h3
    exact ⟨i + runN [1] (rest s i), by omega, rfl, ⟨pw_below_drewN (below_alloc (Below.refl _ _) _) _⟩, ⟨h1⟩, ⟨h2⟩⟩
  case round =>
    obtain ⟨j, hj, rfl, HB, HE, HN⟩ := hrel
    have h0 := (HG.out.below HB.out).1
    have hj1 : (j : Int) ≤ (s.size : Int) := by omega
    by_cases hlt : j < s.size
    · have hx := rest_cons s j hlt
      obtain ⟨x, hxe⟩ : ∃ x : UInt8, s[j]'hlt = x := ⟨_, rfl⟩
      rw [hxe] at hx
      have HX := Lib.hid hx
      clear hx
      have HXE := Lib.hid hxe
      clear hxe
      by_cases hc : x = 35
      · subst hc
        obtain ⟨q1, q2⟩ := gap_hash (rest s (j + 1))
        rw [← HX.out] at q1 q2
        have hd : (s.extract j s.size).data.toList = rest s j := Lib.extract_to_end s j
        have HD := Lib.hid hd
        clear hd
        have hge := Lib.indexByte_ge (rest s j) 10
        have hcl : ((cls 35 : Nat) : Int) = 2 := rfl
        by_cases hn : Lib.indexByte (rest s j) 10 = -1
        · have HQ := Lib.hid (q1 hn)
          have HNN := Lib.hid hn
          clear q1 q2 hn hge
          go_wp2_with (first
            | (go_at_call 50; refine (at_in g s j _ (by omega) (by exact HG.out.below HB.out) hlt).mono ?_; rintro e w' ⟨rfl, m, rfl⟩; rw [HXE.out])
            | (go_at_call 51; refine (Tryd.strings_IndexByte _ _ _).mono ?_; rintro e w' ⟨rfl, hw⟩; rw [hw, HD.out, show ((10 : Int).toNat.toUInt8) = 10 from rfl, HNN.out]))
          go_ret
          refine ⟨ret_int ?_, pw_below_drewN HB.out _⟩
          have h1 := HE.out
          unfold gapE
          rw [← h1, HQ.out]
          rfl
        · obtain ⟨o, ho⟩ : ∃ o : Nat, Lib.indexByte (rest s j) 10 = o := ⟨(Lib.indexByte (rest s j) 10).toNat, by omega⟩
          obtain ⟨q3, q4, q5⟩ := q2 o ho
          rw [rest_length] at q4
          rw [rest_drop] at q5
          have HQ := Lib.hid q5
          have HO := Lib.hid ho
          have ho0 : (0 : Int) ≤ (o : Int) := by omega
          have hjo : ((j : Int) + (o : Int)) ≤ (s.size : Int) := by omega
          have hno : ¬ ((o : Int) < 0) := by omega
          clear q1 q2 hn hge q5 ho
          obtain ⟨q6, q7⟩ := skipB (rest s (j + o))
          rw [rest_drop] at q6 q7
          have q8 := runN_le [1] (rest s (j + o))
          rw [rest_length] at q8
          have HQ6 := Lib.hid q6
          have HQ7 := Lib.hid q7
          clear q6 q7
          go_wp2_with (first
            | (go_at_call 50; refine (at_in g s j _ (by omega) (by exact HG.out.below HB.out) hlt).mono ?_; rintro e w' ⟨rfl, m, rfl⟩; rw [HXE.out])
            | (go_at_call 51; refine (Tryd.strings_IndexByte _ _ _).mono ?_; rintro e w' ⟨rfl, hw⟩; rw [hw, HD.out, show ((10 : Int).toNat.toUInt8) = 10 from rfl, HO.out])
            | (go_at_call 49; rw [show ((j : Int) + (o : Int)) = ((j + o : Nat) : Int) from by omega]; refine (while_any g s (j + o) _ 1 [1] _ hs (by exact (HG.out.below HB.out).below (below_alloc (pw_below_drewN (Below.refl _ _) _) _)) (by simp) (by exact Cls.lit1 _ 1) (by omega)).mono ?_; rintro e w' ⟨rfl, m, rfl⟩))
          go_roundw
          case rel => exact ⟨j + o + runN [1] (rest s (j + o)), by omega, by go_num, ⟨by repeat (first | exact HB.out | apply pw_below_drewN | apply below_alloc)⟩, ⟨by rw [HQ6.out, HQ.out]; exact HE.out⟩, ⟨HQ7.out⟩⟩
          case measure => simp [intOf]; omega
      · have hcl : (((cls x : Nat) : Int) == 2) = false := by rw [(cls_facts x).2.1]; simpa using hc
        go_wp2_with (first
            | (go_at_call 50; refine (at_in g s j _ (by omega) (by exact HG.out.below HB.out) hlt).mono ?_; rintro e w' ⟨rfl, m, rfl⟩; rw [HXE.out]))
        go_ret
        refine ⟨ret_int ?_, pw_below_drewN HB.out _⟩
        have h1 := HE.out
        have h2 := HN.out x _ HX.out
        unfold gapE
        rw [← h1, HX.out, gapS_here h2 (by simpa using hc), ← HX.out, rest_length]
        omega
    · have hcl : ((0 : Int) == 2) = false := rfl
      go_wp2_with (first
            | (go_at_call 50; refine (at_out g s j _ (by omega) (by exact HG.out.below HB.out) hlt).mono ?_; rintro e w' ⟨rfl, m, rfl⟩))
      go_ret
      refine ⟨ret_int ?_, pw_below_drewN HB.out _⟩
      have h1 := HE.out
      unfold gapE
      rw [← h1, rest_nil s j hlt]
      simp [gapS]
      omega
end Go.Proofs.YtgddmfphlhlcjaaDoor.LxW
namespace Go.Proofs.YtgddmfphlhlcjaaDoor.LxW
open Go.RowKit Go.Proofs.YtgddmfphlhlcjaaDoorW.PrintWords Go.Proofs.YtgddmfphlhlcjaaDoorW.PrintLast Go.Proofs.YtgddmfphlhlcjaaDoorW.PrintMore
open Go.Proofs.YtgddmfphlhlcjaaDoor Go.Proofs.YtgddmfphlhlcjaaDoor.LxP
set_option linter.unusedVariables false
set_option linter.unusedSimpArgs false

/-- A quote and a line feed. -/
def ends : ByteArray := ⟨#[34, 10]⟩
theorem width_pos (s : ByteArray) (pos : Nat) (h : pos < s.size) : 1 ≤ (Utf8.decode s pos).2 := by
  by_cases ha : (s[pos]'h).toNat < 128
  · rw [decode_ascii s pos h ha]
    exact Nat.le_refl _
  · exact (decode_high s pos h (by omega)).2
/-- The bytes of a rune behind its first one are no ASCII. -/
theorem decode_cont (s : ByteArray) (pos : Nat) (h : pos < s.size) (ha : 128 ≤ (s[pos]'h).toNat) : ∀ k, k < (Utf8.decode s pos).2 → ∃ hk : pos + k < s.size, 128 ≤ (s[pos + k]'hk).toNat := by
  have hn : ¬ (s[pos]'h).toNat < 128 := by omega
  have key : ∀ k, (decide (pos + k < s.size) && (s.get! (pos + k)).toNat / 64 == 2) = true → ∃ hk : pos + k < s.size, 128 ≤ (s[pos + k]'hk).toNat := by
    intro k hk
    simp only [Bool.and_eq_true, decide_eq_true_eq, beq_iff_eq] at hk
    refine ⟨hk.1, ?_⟩
    have e : s.get! (pos + k) = s[pos + k]'hk.1 := get_at s (pos + k) hk.1
    rw [e] at hk
    omega
  have h0 : ∀ k, k < 1 → ∃ hk : pos + k < s.size, 128 ≤ (s[pos + k]'hk).toNat := fun k hk => by
    obtain rfl : k = 0 := by omega
    exact ⟨h, ha⟩
  simp only [Utf8.decode, get_at s pos h, hn, if_false]
  split
  · rename_i h1
    simp only [Bool.and_eq_true] at h1
    split
    · intro k hk
      rcases Nat.lt_or_ge k 1 with h2 | h2
      · exact h0 k h2
      · obtain rfl : k = 1 := by simp at hk; omega
        exact key 1 (by simpa using h1.2)
    · exact h0
  · split
    · rename_i h1
      simp only [Bool.and_eq_true] at h1
      split
      · intro k hk
        rcases Nat.lt_or_ge k 1 with h2 | h2
        · exact h0 k h2
        · have : k = 1 ∨ k = 2 := by simp at hk; omega
          rcases this with rfl | rfl
          · exact key 1 (by simpa using h1.1.2)
          · exact key 2 (by simpa using h1.2)
      · exact h0
    · split
      · rename_i h1
        simp only [Bool.and_eq_true] at h1
        split
        · intro k hk
          rcases Nat.lt_or_ge k 1 with h2 | h2
          · exact h0 k h2
          · have : k = 1 ∨ k = 2 ∨ k = 3 := by simp at hk; omega
            rcases this with rfl | rfl | rfl
            · exact key 1 (by simpa using h1.1.1.2)
            · exact key 2 (by simpa using h1.1.2)
            · exact key 3 (by simpa using h1.2)
        · exact h0
      · exact h0

theorem quiet_add_same {P : Program} {f : FuncId} {args : Array Value} {w : World} {a n : Nat} {v : Value}
    (h : Calls P f args (w.drewN (a + n)) fun e w' => e = .returned v ∧ w' = w.drewN (a + n)) :
    Calls P f args (w.drewN (a + n)) fun e w'' => e = .returned v ∧ ∃ m, w'' = w.drewN (a + m) :=
  h.mono fun _ _ ⟨he, hm⟩ => ⟨he, n, hm⟩

set_option maxHeartbeats 4000000 in
set_option maxRecDepth 1000000 in
theorem rune_error (en : ByteArray) (w : World) (HA : Hid (∀ (j : Nat) (h : j < en.size), (en[j]'h).toNat < 128)) :
    Calls Tryd.prog 62 #[.string en, .int .i32 65533] w fun e w' => e = .returned (.int .i64 (-1)) ∧ Below w.heap.size w w' := by
  go_enter Tryd.func62, Tryd.ntmps62
  go_wp2_with fail
  go_loopg [5, 6] en.size (fun gk _ _ wx => ∃ i : Nat, i ≤ en.size ∧ en.size - i ≤ gk ∧ wx = w.iter en i)
  case atStart => exact ⟨0, by omega, by omega, rfl⟩
  case round =>
    obtain ⟨i, hi, hgk, rfl⟩ := hrel
    by_cases hlt : i < en.size
    · obtain ⟨q, rfl⟩ : ∃ q, gk = q + 1 := ⟨gk - 1, by omega⟩
      have ha := HA.out i hlt
      obtain ⟨x, hx⟩ : ∃ x : UInt8, en[i]'hlt = x := ⟨_, rfl⟩
      have hnx := fun ty => run_next_ascii (P := Tryd.prog) w en i ty hlt ha
      rw [hx] at ha hnx
      clear hx
      have hne : ((x.toNat : Int) == 65533) = false := beq_eq_false_iff_ne.2 (by omega)
      go_wp2
      go_roundg q
      case measure => omega
      case rel => exact ⟨i + 1, by omega, by omega, rfl⟩
    · have hnx := run_next_end (P := Tryd.prog) w en i
      have hnx := fun ty => hnx ty hlt
      go_wp2
      go_ret
      exact ⟨rfl, below_alloc (Below.refl _ _) _⟩

set_option maxHeartbeats 4000000 in
set_option maxRecDepth 1000000 in
theorem rune_bad (en : ByteArray) (r : Int) (w : World) (h : 128 ≤ r) (h2 : r ≤ 2147483647) (hne : (r == 65533) = false) (hv : Lib.validRune r = false) :
    Calls Tryd.prog 62 #[.string en, .int .i32 r] w fun e w' => e = .returned (.int .i64 (-1)) ∧ Below w.heap.size w w' := by
  have h1 : decide (r < 128) = false := decide_eq_false (by omega)
  have h0 : decide (0 ≤ r) = true := decide_eq_true (by omega)
  have HV := Lib.hid hv
  clear hv
  go_enter Tryd.func62, Tryd.ntmps62
  go_wp2_with (go_at_call 79; refine (Tryd.utf8_ValidRune r _).mono ?_; rintro e w' ⟨rfl, hw⟩; rw [hw, HV.out])
  go_ret
  exact ⟨rfl, Below.refl _ _⟩

set_option maxHeartbeats 4000000 in
set_option maxRecDepth 1000000 in
theorem rune_good2 (en rs : ByteArray) (r : Int) (x y : UInt8) (w : World) (h : 128 ≤ r) (h2 : r ≤ 2147483647) (hne : (r == 65533) = false) (hv : Lib.validRune r = true) (H2S : Hid (en.size = 2)) (hs1' : 1 < en.size) (hx : en[1]'hs1' = x) (hrs : Utf8.encode r = rs) (h3 : 1 < rs.size) (H3 : Hid (rs.size = 2)) (hy : rs[1]'h3 = y) (hxl : x.toNat < 128) (hyl : 128 ≤ y.toNat) :
    Calls Tryd.prog 62 #[.string en, .int .i32 r] w fun e w' => e = .returned (.int .i64 (-1)) ∧ Below w.heap.size w w' := by
  have h1 : decide (r < 128) = false := decide_eq_false (by omega)
  have h0 : decide (0 ≤ r) = true := decide_eq_true (by omega)
  have HV := Lib.hid hv
  clear hv
  have hxy : ((x.toNat : Int) == (y.toNat : Int)) = false := beq_eq_false_iff_ne.2 (by omega)
  have hxy2 : ((x.toNat : Int) != (y.toNat : Int)) = true := by rw [bne_iff_ne]; omega
  have hs1 : (1 : Int) < (en.size : Int) := by omega
  have hs2 : (2 : Int) ≤ (en.size : Int) := by omega
  have hs3 : ¬ ((en.size : Int) < 2) := by omega
  have hr1 : (1 : Int) < (rs.size : Int) := by omega
  have hrl : (rs.size : Int) - 1 = 1 := by have := H3.out; omega
  have HIB : Hid (∀ w, Calls Tryd.prog 51 #[.string (en.extract 2 en.size), .int .u8 y.toNat] w fun e w' => e = .returned (.int .i64 (-1)) ∧ w' = w) := Lib.hid (fun w => by
      refine (Tryd.strings_IndexByte _ _ _).mono ?_
      rintro e w' ⟨rfl, hw⟩
      have : (en.extract 2 en.size).data.toList = [] := by rw [Lib.extract_data, H2S.out]; simp
      rw [this]
      exact ⟨rfl, hw⟩)
  go_enter Tryd.func62, Tryd.ntmps62
  go_wp2_with (go_at_call 79; refine (Tryd.utf8_ValidRune r _).mono ?_; rintro e w' ⟨rfl, hw⟩; rw [hw, HV.out])
  go_step3
  go_wp2_with fail
  go_loopw [9, 10] (fun v u wr => v = .int .i64 1 ∧ u = .int .i64 0 ∧ wr = w) (fun _ _ _ => 0)
  case atStart => exact ⟨rfl, rfl, rfl⟩
  case round =>
      obtain ⟨rfl, rfl, rfl⟩ := hrel
      go_wp2_with fail
      go_step3
      go_wp2_with fail
      go_quiet (fail)
      go_wp2_with fail
      go_quiet ((go_at_call 51; exact quiet_add_same (HIB.out _)))
      go_wp2_with fail
      rw [Exit.noGoto_ret]
      go_wp2_with fail
      rw [Exit.noGoto_ret]
      go_wp2_with fail
      go_ret
      exact ⟨rfl, pw_below_drewN (Below.refl _ _) _⟩

set_option maxHeartbeats 4000000 in
set_option maxRecDepth 1000000 in
theorem rune_good3 (en rs : ByteArray) (r : Int) (w : World) (h : 128 ≤ r) (h2 : r ≤ 2147483647) (hne : (r == 65533) = false) (hv : Lib.validRune r = true) (hrs : Utf8.encode r = rs) (h3 : 3 ≤ rs.size) (h4 : rs.size ≤ 4) (h5 : en.size ≤ 2) :
    Calls Tryd.prog 62 #[.string en, .int .i32 r] w fun e w' => e = .returned (.int .i64 (-1)) ∧ Below w.heap.size w w' := by
  have h1 : decide (r < 128) = false := decide_eq_false (by omega)
  have h0 : decide (0 ≤ r) = true := decide_eq_true (by omega)
  have HV := Lib.hid hv
  clear hv
  go_enter Tryd.func62, Tryd.ntmps62
  go_wp2_with (go_at_call 79; refine (Tryd.utf8_ValidRune r _).mono ?_; rintro e w' ⟨rfl, hw⟩; rw [hw, HV.out])
  go_step3
  go_wp2_with fail
  go_loopw [9, 10] (fun v u wr => v = .int .i64 ((rs.size : Int) - 1) ∧ u = .int .i64 0 ∧ wr = w) (fun _ _ _ => 0)
  case atStart => exact ⟨rfl, rfl, rfl⟩
  case round =>
      obtain ⟨rfl, rfl, rfl⟩ := hrel
      have hno : decide ((rs.size : Int) - 1 < (en.size : Int)) = false := decide_eq_false (by omega)
      go_wp2_with fail
      rw [Exit.noGoto_ret]
      go_wp2_with fail
      go_ret
      exact ⟨rfl, Below.refl _ _⟩

theorem rune_hi (r : Int) (h : 128 ≤ r) (h2 : r ≤ 2147483647) (w : World) :
    Calls Tryd.prog 62 #[.string ends, .int .i32 r] w fun e w' => e = .returned (.int .i64 (-1)) ∧ Below w.heap.size w w' := by
  have hA : ∀ (j : Nat) (h : j < ends.size), (ends[j]'h).toNat < 128 := by
    intro j hj
    have : j = 0 ∨ j = 1 := by have h : ends.size = 2 := rfl; omega
    rcases this with rfl | rfl
    · exact (by decide : (34 : UInt8).toNat < 128)
    · exact (by decide : (10 : UInt8).toNat < 128)
  by_cases he : r = 65533
  · subst he
    exact rune_error ends w (Lib.hid hA)
  · have hne : (r == 65533) = false := beq_eq_false_iff_ne.2 he
    cases hv : Lib.validRune r with
    | false => exact rune_bad ends r w h h2 hne hv
    | true =>
      obtain ⟨e1, e2, e3⟩ := encode_facts r (by rw [validRune_eq]; exact hv) h
      by_cases h3 : (Utf8.encode r).size = 2
      · have hlt : 1 < (Utf8.encode r).size := by omega
        have hy : 128 ≤ ((Utf8.encode r)[1]'hlt).toNat := by
          have := e3 (by omega)
          simpa only [h3] using this
        exact rune_good2 ends _ r _ _ w h h2 hne hv (Lib.hid rfl) (by decide) rfl rfl hlt (Lib.hid h3) rfl (hA 1 (by decide)) hy
      · exact rune_good3 ends _ r w h h2 hne hv rfl (by omega) e2 (Nat.le_refl 2)

theorem indexAny_step (s : ByteArray) (i n : Nat) (h : Lib.NoAny s.data.toList [34, 10] i) (hn : ∀ k, k < n → ∃ hk : i + k < s.size, 128 ≤ (s[i + k]'hk).toNat) : Lib.NoAny s.data.toList [34, 10] (i + n) := by
  intro j b hj hb
  by_cases hij : j < i
  · exact h j b hij hb
  · obtain ⟨hk, h1⟩ := hn (j - i) (by omega)
    have e : i + (j - i) = j := by omega
    have hb' : (s[j]'(by omega)) = b := by
      have := Lib.data_getElem? s j (by omega)
      rw [this] at hb
      exact Option.some.inj hb
    have h3 : 128 ≤ b.toNat := by
      rw [← hb']
      simpa only [e] using h1
    have h34 : b ≠ 34 := by rintro rfl; revert h3; decide
    have h10 : b ≠ 10 := by rintro rfl; revert h3; decide
    simp [h34, h10]

set_option maxHeartbeats 4000000 in
set_option maxRecDepth 1000000 in
theorem indexAny_short_of (s en : ByteArray) (w : World) (h8 : s.size ≤ 8) (hemp : en.toList.isEmpty = false) (hn1 : ((en.size : Int) == 1) = false) (HA : Hid (en.data.toList = [34, 10]))
    (HR : Hid (∀ (r : Int), 128 ≤ r → r ≤ 2147483647 → ∀ w : World, Calls Tryd.prog 62 #[.string en, .int .i32 r] w fun e w' => e = .returned (.int .i64 (-1)) ∧ Below w.heap.size w w')) :
    Calls Tryd.prog 53 #[.string s, .string en] w fun e w' => e = .returned (.int .i64 (Lib.indexAny s.data.toList [34, 10])) ∧ Below w.heap.size w w' := by
  have h8z : decide ((8 : Int) < (s.size : Int)) = false := decide_eq_false (by omega)
  go_enter Tryd.func53, Tryd.ntmps53
  go_wp2_with (go_at_call 63; refine (Tryd.strings_shouldUseASCIISet _ _).mono ?_; rintro e w' ⟨rfl, hw⟩; rw [hw, h8z])
  go_loopg [9, 10] s.size (fun gk _ _ wx => ∃ i : Nat, i ≤ s.size ∧ s.size - i ≤ gk ∧ Aside0 (wx.heap[w.heap.size]? = some (.stringIter s i)) ∧ Aside0 (Below w.heap.size w wx) ∧ Aside0 (Lib.NoAny s.data.toList [34, 10] i))
  case atStart => exact ⟨0, by omega, by omega, ⟨World.iter_heap _ _ _⟩, ⟨below_alloc (Below.refl _ _) _⟩, ⟨Lib.NoAny.zero _ _⟩⟩
  case round =>
    obtain ⟨i, hi, hgk, HI, HB, HN⟩ := hrel
    by_cases hlt : i < s.size
    · have hnx : ∀ ty, (Instr.next (.pointer (some ⟨w.heap.size, 0, none⟩)) true ty).run Tryd.prog wr = _ := fun ty => Lib.run_next_any_at wr w.heap.size s i ty HI.out hlt
      have hit2 := Lib.hid (Lib.iterAt_heap wr w.heap.size s i (i + (Utf8.decode s i).2) HI.out)
      have hbw2 := Lib.hid (Lib.below_iterAt HB.out (k := w.heap.size) (Nat.le_refl _) s (i + (Utf8.decode s i).2))
      have hwp := width_pos s i hlt
      have hdl := decode_le s i
      obtain ⟨q, rfl⟩ : ∃ q, gk = q + 1 := ⟨gk - 1, by omega⟩
      have hsz2 : w.heap.size < (wr.iterAt w.heap.size s (i + (Utf8.decode s i).2)).heap.size := (Array.getElem?_eq_some_iff.1 hit2.out).1
      by_cases ha : (s[i]'hlt).toNat < 128
      · obtain ⟨x, hx⟩ : ∃ x : UInt8, s[i]'hlt = x := ⟨_, rfl⟩
        have hde := decode_ascii s i hlt ha
        have hxl : s.data.toList[i]? = some x := by rw [← hx]; exact Lib.data_getElem? s i hlt
        rw [hx] at ha hde
        rw [hde] at hnx hit2 hbw2 hsz2
        have Hx := Lib.hid hxl
        clear hde hwp hdl hx hxl
        simp only at hnx hit2 hbw2 hsz2
        have hcon := Lib.contains_iff_indexByte en.data.toList x
        rw [HA.out] at hcon
        have hback : ((x.toNat : Int)).toNat.toUInt8 = x := by simp
        have HBK := Lib.hid hback
        clear hback
        cases hin : ([34, 10] : List UInt8).contains x
        · rw [hin] at hcon
          have hlt2 : ¬ ((0 : Int) ≤ Lib.indexByte [34, 10] x) := of_decide_eq_false hcon.symm
          have HIN := Lib.hid hin
          clear hcon hin
          go_wp2_with (go_at_call 62; refine (Tryd.strings_IndexRune_ascii _ _ _ (by omega) (by omega)).mono ?_; rintro e w' ⟨rfl, hw⟩; rw [hw, HBK.out, HA.out])
          go_roundg q
          case measure => omega
          case rel => exact ⟨i + 1, by omega, by omega, ⟨hit2.out⟩, ⟨hbw2.out⟩, ⟨HN.out.succ Hx.out HIN.out⟩⟩
        · rw [hin] at hcon
          have hge : (0 : Int) ≤ Lib.indexByte [34, 10] x := of_decide_eq_true hcon.symm
          have HIN := Lib.hid hin
          clear hcon hin
          go_wp2_with (go_at_call 62; refine (Tryd.strings_IndexRune_ascii _ _ _ (by omega) (by omega)).mono ?_; rintro e w' ⟨rfl, hw⟩; rw [hw, HBK.out, HA.out])
          go_ret
          exact ⟨by rw [Lib.indexAny_hit HN.out Hx.out HIN.out]; rfl, hbw2.out⟩
      · have hdh := decode_high s i hlt (by omega)
        have hc := Lib.hid (decode_cont s i hlt (by omega))
        obtain ⟨d, hd⟩ : ∃ d, Utf8.decode s i = d := ⟨_, rfl⟩
        rw [hd] at hnx hit2 hbw2 hwp hdl hdh hc hsz2
        clear hd
        obtain ⟨r, n⟩ := d
        simp only at hnx hit2 hbw2 hwp hdl hdh hc hsz2
        have hrange : i + n ≤ s.size := by
          obtain ⟨h1, _⟩ := hc.out (n - 1) (by omega)
          omega
        go_wp2_with (go_at_call 62; refine (HR.out _ (by omega) (by omega) _).mono ?_; rintro e w' ⟨rfl, hw⟩; have HW := Lib.hid hw; clear hw)
        go_roundg q
        case measure => omega
        case rel => exact ⟨i + n, by omega, by omega, ⟨blk_below hit2.out HW.out⟩, ⟨below_step hbw2.out HW.out⟩, ⟨indexAny_step s i n HN.out hc.out⟩⟩
    · have hnx : ∀ ty, (Instr.next (.pointer (some ⟨w.heap.size, 0, none⟩)) true ty).run Tryd.prog wr = _ := fun ty => Lib.run_next_end_at wr w.heap.size s i ty HI.out hlt
      go_wp2
      go_ret
      obtain rfl : i = s.size := by omega
      exact ⟨by rw [Lib.indexAny_none (by rw [← Lib.size_eq]; exact HN.out)]; rfl, HB.out⟩

theorem indexAny_any (s : ByteArray) (w : World) (hs : s.size < 4294967281) :
    Calls Tryd.prog 53 #[.string s, .string ends] w fun e w' => e = .returned (.int .i64 (Lib.indexAny s.data.toList [34, 10])) ∧ Below w.heap.size w w' := by
  by_cases h8 : s.size ≤ 8
  · exact indexAny_short_of s ends w h8 (by rw [Lib.toList_data]; rfl) rfl (Lib.hid rfl) (Lib.hid rune_hi)
  · refine (Tryd.strings_IndexAny_long (fun w => by kernel_rfl) s ends w (Nat.le_refl 2) (by omega) hs (by decide) ?_).mono ?_
    · intro j b hb
      have : b = 34 ∨ b = 10 := by
        have := List.mem_of_getElem? hb
        have e : ends.data.toList = [34, 10] := rfl
        rw [e] at this
        simpa using this
      rcases this with rfl | rfl <;> decide
    · rintro e w' ⟨rfl, rfl⟩
      exact ⟨rfl, below_alloc (below_alloc (Below.refl _ _) _) _⟩
end Go.Proofs.YtgddmfphlhlcjaaDoor.LxW
namespace Go.Proofs.YtgddmfphlhlcjaaDoor.LxW
open Go.RowKit Go.Proofs.YtgddmfphlhlcjaaDoorW.PrintWords Go.Proofs.YtgddmfphlhlcjaaDoorW.PrintLast Go.Proofs.YtgddmfphlhlcjaaDoorW.PrintMore
open Go.Proofs.YtgddmfphlhlcjaaDoor Go.Proofs.YtgddmfphlhlcjaaDoor.LxP
set_option linter.unusedVariables false
set_option linter.unusedSimpArgs false

def bs (l : List UInt8) : ByteArray := ⟨l.toArray⟩
/-- What 'next' returns. -/
def nextV (r : Except Nat Tk) (i : Nat) : Value := match r with
  | .error e => .tuple #[.agg #[.int .i64 0, .int .i64 0, .int .i64 0, .string ⟨#[]⟩], .int .i64 0, .int .i64 e]
  | .ok t => .tuple #[.agg #[.int .i64 t.kind, .int .i64 i, .int .i64 t.n, .string (bs t.text)], .int .i64 ((i + t.width : Nat) : Int), .int .i64 0]
theorem bs_extract (s : ByteArray) (i n : Nat) (l r : List UInt8) (h : rest s i = l ++ r) (hl : n = i + l.length) : s.extract i n = bs l := by
  have e : (s.extract i n).data.toList = l := by
    rw [Lib.extract_data]
    show (rest s i).take (n - i) = l
    rw [h, hl, Nat.add_sub_cancel_left, List.take_left]
  unfold bs
  cases hs : s.extract i n with
  | mk d =>
    rw [hs] at e
    rw [← e]

theorem cut_str (s : ByteArray) (lo hi : Int) (l h : Nat) (e1 : lo = l) (e2 : hi = h) (h1 : l ≤ h) (h2 : h ≤ s.size) : ∀ w, (Instr.slice 9 (.string s) (some (.int .i64 lo)) (some (.int .i64 hi)) none).run Tryd.prog w = .ok (.string (s.extract l h)) w := fun w => by
  subst e1 e2
  rw [run_slice_string w 9 s .i64 .i64 (l : Int) (h : Int) Tryd.underlying9 (by omega) (by omega) (by omega)]
  rfl

theorem cut_from (s : ByteArray) (lo : Int) (l : Nat) (e1 : lo = l) (h1 : l ≤ s.size) : ∀ w, (Instr.slice 9 (.string s) (some (.int .i64 lo)) none none).run Tryd.prog w = .ok (.string (s.extract l s.size)) w := fun w => by
  subst e1
  rw [run_slice_string_l w 9 s Tryd.underlying9 .i64 (l : Int) (by omega) (by omega)]
  rfl

set_option maxHeartbeats 2000000 in
set_option maxRecDepth 1000000 in
theorem next_sym (g : Nat) (s : ByteArray) (i : Nat) (w : World) (x : UInt8) (hs : s.size ≤ 1000000) (hg : Scan w g s) (hi : i < s.size) (hx : s[i]'hi = x) (hc : (cls x : Int) = 9) :
    Calls Tryd.prog 42 #[.pointer (some ⟨g, 0, none⟩), .int .i64 i] w fun e w' => e = .returned (.tuple #[.agg #[.int .i64 4, .int .i64 i, .int .i64 0, .string (s.extract i (i + 1))], .int .i64 ((i : Int) + 1), .int .i64 0]) ∧ Below w.heap.size w w' := by
  have HG := Lib.hid hg
  have h0 := hg.1
  have hb : g < w.heap.size := World.block_lt_of_cell? w _ hg.1
  have HX := Lib.hid hx
  have HC := Lib.hid hc
  have hi1 : (i : Int) + 1 ≤ (s.size : Int) := by omega
  clear hg hx hc
  have hsl := cut_str s i ((i : Int) + 1) i (i + 1) rfl (by omega) (by omega) (by omega)
  go_enter Tryd.func42, Tryd.ntmps42
  go_wp2_with (first | (go_at_call 50; refine (at_in g s i _ (by omega) (by exact HG.out.below (below_alloc (Below.refl _ _) _)) hi).mono ?_; rintro e w' ⟨rfl, m, rfl⟩; rw [HX.out, HC.out]))
  refine bodyPost_ret (v := .tuple #[.agg #[.int .i64 4, .int .i64 i, .int .i64 0, .string (s.extract i (i + 1))], .int .i64 ((i : Int) + 1), .int .i64 0]) (by simp [results, Tryd.results42, go_sem]) rfl ⟨rfl, (by repeat (first | exact Below.refl _ _ | apply below_alloc | apply pw_below_drewN | refine below_set ?_ (Nat.le_refl _)))⟩

set_option maxHeartbeats 2000000 in
set_option maxRecDepth 1000000 in
theorem next_angle (g : Nat) (s : ByteArray) (i : Nat) (w : World) (x : UInt8) (hs : s.size ≤ 1000000) (hg : Scan w g s) (hi : i < s.size) (hx : s[i]'hi = x) (hc : (cls x : Int) = 8) (hp : Lib.hasPrefix (s.extract (i + 1) s.size).data.toList [61] = false) :
    Calls Tryd.prog 42 #[.pointer (some ⟨g, 0, none⟩), .int .i64 i] w fun e w' => e = .returned (.tuple #[.agg #[.int .i64 4, .int .i64 i, .int .i64 0, .string (s.extract i (i + 1))], .int .i64 ((i : Int) + 1), .int .i64 0]) ∧ Below w.heap.size w w' := by
  have HG := Lib.hid hg
  have h0 := hg.1
  have hb : g < w.heap.size := World.block_lt_of_cell? w _ hg.1
  have HX := Lib.hid hx
  have HC := Lib.hid hc
  have hi1 : (i : Int) + 1 ≤ (s.size : Int) := by omega
  clear hg hx hc
  have hsl := cut_str s i ((i : Int) + 1) i (i + 1) rfl (by omega) (by omega) (by omega)
  have hfr := cut_from s ((i : Int) + 1) (i + 1) (by omega) (by omega)
  have HP : Hid (Lib.hasPrefix (s.extract (i + 1) s.size).data.toList (⟨#[61]⟩ : ByteArray).data.toList = false) := Lib.hid hp
  clear hp
  go_enter Tryd.func42, Tryd.ntmps42
  go_wp2_with (first | (go_at_call 50; refine (at_in g s i _ (by omega) (by exact HG.out.below (below_alloc (Below.refl _ _) _)) hi).mono ?_; rintro e w' ⟨rfl, m, rfl⟩; rw [HX.out, HC.out]) | (go_at_call 54; refine (Tryd.strings_HasPrefix _ _ _).mono ?_; rintro e w' ⟨rfl, hw⟩; rw [hw, HP.out]))
  refine bodyPost_ret (v := .tuple #[.agg #[.int .i64 4, .int .i64 i, .int .i64 0, .string (s.extract i (i + 1))], .int .i64 ((i : Int) + 1), .int .i64 0]) (by simp [results, Tryd.results42, go_sem]) rfl ⟨rfl, (by repeat (first | exact Below.refl _ _ | apply below_alloc | apply pw_below_drewN | refine below_set ?_ (Nat.le_refl _)))⟩

set_option maxHeartbeats 2000000 in
set_option maxRecDepth 1000000 in
theorem next_two8 (g : Nat) (s : ByteArray) (i : Nat) (w : World) (x : UInt8) (hs : s.size ≤ 1000000) (hg : Scan w g s) (hi : i < s.size) (hx : s[i]'hi = x) (hc : (cls x : Int) = 8) (hp : Lib.hasPrefix (s.extract (i + 1) s.size).data.toList [61] = true) (hi2 : i + 2 ≤ s.size) :
    Calls Tryd.prog 42 #[.pointer (some ⟨g, 0, none⟩), .int .i64 i] w fun e w' => e = .returned (.tuple #[.agg #[.int .i64 4, .int .i64 i, .int .i64 0, .string (s.extract i (i + 2))], .int .i64 ((i : Int) + 2), .int .i64 0]) ∧ Below w.heap.size w w' := by
  have HG := Lib.hid hg
  have h0 := hg.1
  have hb : g < w.heap.size := World.block_lt_of_cell? w _ hg.1
  have HX := Lib.hid hx
  have HC := Lib.hid hc
  have hi1 : (i : Int) + 1 ≤ (s.size : Int) := by omega
  clear hg hx hc
  have hsl2 := cut_str s i ((i : Int) + 2) i (i + 2) rfl (by omega) (by omega) (by omega)
  have hfr := cut_from s ((i : Int) + 1) (i + 1) (by omega) (by omega)
  have HP : Hid (Lib.hasPrefix (s.extract (i + 1) s.size).data.toList (⟨#[61]⟩ : ByteArray).data.toList = true) := Lib.hid hp
  clear hp
  go_enter Tryd.func42, Tryd.ntmps42
  go_wp2_with (first | (go_at_call 50; refine (at_in g s i _ (by omega) (by exact HG.out.below (below_alloc (Below.refl _ _) _)) hi).mono ?_; rintro e w' ⟨rfl, m, rfl⟩; rw [HX.out, HC.out]) | (go_at_call 54; refine (Tryd.strings_HasPrefix _ _ _).mono ?_; rintro e w' ⟨rfl, hw⟩; rw [hw, HP.out]))
  refine bodyPost_ret (v := .tuple #[.agg #[.int .i64 4, .int .i64 i, .int .i64 0, .string (s.extract i (i + 2))], .int .i64 ((i : Int) + 2), .int .i64 0]) (by simp [results, Tryd.results42, go_sem]) rfl ⟨rfl, (by repeat (first | exact Below.refl _ _ | apply below_alloc | apply pw_below_drewN | refine below_set ?_ (Nat.le_refl _)))⟩

set_option maxHeartbeats 2000000 in
set_option maxRecDepth 1000000 in
theorem next_two7 (g : Nat) (s : ByteArray) (i : Nat) (w : World) (x : UInt8) (hs : s.size ≤ 1000000) (hg : Scan w g s) (hi : i < s.size) (hx : s[i]'hi = x) (hc : (cls x : Int) = 7) (hp : Lib.hasPrefix (s.extract (i + 1) s.size).data.toList [61] = true) (hi2 : i + 2 ≤ s.size) :
    Calls Tryd.prog 42 #[.pointer (some ⟨g, 0, none⟩), .int .i64 i] w fun e w' => e = .returned (.tuple #[.agg #[.int .i64 4, .int .i64 i, .int .i64 0, .string (s.extract i (i + 2))], .int .i64 ((i : Int) + 2), .int .i64 0]) ∧ Below w.heap.size w w' := by
  have HG := Lib.hid hg
  have h0 := hg.1
  have hb : g < w.heap.size := World.block_lt_of_cell? w _ hg.1
  have HX := Lib.hid hx
  have HC := Lib.hid hc
  have hi1 : (i : Int) + 1 ≤ (s.size : Int) := by omega
  clear hg hx hc
  have hsl2 := cut_str s i ((i : Int) + 2) i (i + 2) rfl (by omega) (by omega) (by omega)
  have hfr := cut_from s ((i : Int) + 1) (i + 1) (by omega) (by omega)
  have HP : Hid (Lib.hasPrefix (s.extract (i + 1) s.size).data.toList (⟨#[61]⟩ : ByteArray).data.toList = true) := Lib.hid hp
  clear hp
  go_enter Tryd.func42, Tryd.ntmps42
  go_wp2_with (first | (go_at_call 50; refine (at_in g s i _ (by omega) (by exact HG.out.below (below_alloc (Below.refl _ _) _)) hi).mono ?_; rintro e w' ⟨rfl, m, rfl⟩; rw [HX.out, HC.out]) | (go_at_call 54; refine (Tryd.strings_HasPrefix _ _ _).mono ?_; rintro e w' ⟨rfl, hw⟩; rw [hw, HP.out]))
  refine bodyPost_ret (v := .tuple #[.agg #[.int .i64 4, .int .i64 i, .int .i64 0, .string (s.extract i (i + 2))], .int .i64 ((i : Int) + 2), .int .i64 0]) (by simp [results, Tryd.results42, go_sem]) rfl ⟨rfl, (by repeat (first | exact Below.refl _ _ | apply below_alloc | apply pw_below_drewN | refine below_set ?_ (Nat.le_refl _)))⟩

set_option maxHeartbeats 2000000 in
set_option maxRecDepth 1000000 in
theorem next_mark (g : Nat) (s : ByteArray) (i : Nat) (w : World) (x : UInt8) (hs : s.size ≤ 1000000) (hg : Scan w g s) (hi : i < s.size) (hx : s[i]'hi = x) (hc : (cls x : Int) = 7) (hp : Lib.hasPrefix (s.extract (i + 1) s.size).data.toList [61] = false) :
    Calls Tryd.prog 42 #[.pointer (some ⟨g, 0, none⟩), .int .i64 i] w fun e w' => e = .returned (.tuple #[.agg #[.int .i64 0, .int .i64 0, .int .i64 0, .string ⟨#[]⟩], .int .i64 0, .int .i64 3]) ∧ Below w.heap.size w w' := by
  have HG := Lib.hid hg
  have h0 := hg.1
  have hb : g < w.heap.size := World.block_lt_of_cell? w _ hg.1
  have HX := Lib.hid hx
  have HC := Lib.hid hc
  have hi1 : (i : Int) + 1 ≤ (s.size : Int) := by omega
  clear hg hx hc
  have hfr := cut_from s ((i : Int) + 1) (i + 1) (by omega) (by omega)
  have HP : Hid (Lib.hasPrefix (s.extract (i + 1) s.size).data.toList (⟨#[61]⟩ : ByteArray).data.toList = false) := Lib.hid hp
  clear hp
  go_enter Tryd.func42, Tryd.ntmps42
  go_wp2_with (first | (go_at_call 50; refine (at_in g s i _ (by omega) (by exact HG.out.below (below_alloc (Below.refl _ _) _)) hi).mono ?_; rintro e w' ⟨rfl, m, rfl⟩; rw [HX.out, HC.out]) | (go_at_call 54; refine (Tryd.strings_HasPrefix _ _ _).mono ?_; rintro e w' ⟨rfl, hw⟩; rw [hw, HP.out]))
  refine bodyPost_ret (v := .tuple #[.agg #[.int .i64 0, .int .i64 0, .int .i64 0, .string ⟨#[]⟩], .int .i64 0, .int .i64 3]) (by simp [results, Tryd.results42, go_sem]) rfl ⟨rfl, (by repeat (first | exact Below.refl _ _ | apply below_alloc | apply pw_below_drewN | refine below_set ?_ (Nat.le_refl _)))⟩

set_option maxHeartbeats 2000000 in
set_option maxRecDepth 1000000 in
theorem next_other (g : Nat) (s : ByteArray) (i : Nat) (w : World) (x : UInt8) (k : Int) (hs : s.size ≤ 1000000) (hg : Scan w g s) (hi : i < s.size) (hx : s[i]'hi = x) (hc : (cls x : Int) = k) (h3 : (k == 3) = false) (h4 : (k == 4) = false) (h6 : (k == 6) = false) (h7 : (k == 7) = false) (h8 : (k == 8) = false) (h9 : (k == 9) = false) :
    Calls Tryd.prog 42 #[.pointer (some ⟨g, 0, none⟩), .int .i64 i] w fun e w' => e = .returned (.tuple #[.agg #[.int .i64 0, .int .i64 0, .int .i64 0, .string ⟨#[]⟩], .int .i64 0, .int .i64 3]) ∧ Below w.heap.size w w' := by
  have HG := Lib.hid hg
  have h0 := hg.1
  have hb : g < w.heap.size := World.block_lt_of_cell? w _ hg.1
  have HX := Lib.hid hx
  have HC := Lib.hid hc
  have hi1 : (i : Int) + 1 ≤ (s.size : Int) := by omega
  clear hg hx hc
  go_enter Tryd.func42, Tryd.ntmps42
  go_wp2_with (first | (go_at_call 50; refine (at_in g s i _ (by omega) (by exact HG.out.below (below_alloc (Below.refl _ _) _)) hi).mono ?_; rintro e w' ⟨rfl, m, rfl⟩; rw [HX.out, HC.out]))
  refine bodyPost_ret (v := .tuple #[.agg #[.int .i64 0, .int .i64 0, .int .i64 0, .string ⟨#[]⟩], .int .i64 0, .int .i64 3]) (by simp [results, Tryd.results42, go_sem]) rfl ⟨rfl, (by repeat (first | exact Below.refl _ _ | apply below_alloc | apply pw_below_drewN | refine below_set ?_ (Nat.le_refl _)))⟩

end Go.Proofs.YtgddmfphlhlcjaaDoor.LxW
