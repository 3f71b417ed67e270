/- strings.IndexAny at the two bytes that end a string's text (a quote and a line feed), for every string, be it valid UTF-8 or not. -/
import Derived.Test.YtalgccjkfanaoaaDoorLexB
import Derived.Lib.OthersKept
import Derived.Laws.Runes
import Derived.WalkMore
import Derived.Scope
import Derived.ScopeJumps
namespace Go.Proofs.YtalgccjkfanaoaaDoor.LxW
open Go.RowKit Go.Proofs.YtalgccjkfanaoaaDoorW.PrintWords Go.Proofs.YtalgccjkfanaoaaDoorW.PrintLast Go.Proofs.YtalgccjkfanaoaaDoorW.PrintMore
open Go.Proofs.YtalgccjkfanaoaaDoor Go.Proofs.YtalgccjkfanaoaaDoor.LxP
set_option linter.unusedVariables false
set_option linter.unusedSimpArgs false

/-- A quote and a line feed. -/
def ends : ByteArray := ⟨#[34, 10]⟩
theorem width_pos (s : ByteArray) (pos : Nat) (h : pos < s.size) : 1 ≤ (Utf8.decode s pos).2 := by
  by_cases ha : (s[pos]'h).toNat < 128
  · rw [decode_ascii s pos h ha]
    exact Nat.le_refl _
  · exact (decode_high s pos h (by omega)).2
/-- The bytes of a rune behind its first one are no ASCII. -/
theorem decode_cont (s : ByteArray) (pos : Nat) (h : pos < s.size) (ha : 128 ≤ (s[pos]'h).toNat) : ∀ k, k < (Utf8.decode s pos).2 → ∃ hk : pos + k < s.size, 128 ≤ (s[pos + k]'hk).toNat := by
  have hn : ¬ (s[pos]'h).toNat < 128 := by omega
  have key : ∀ k, (decide (pos + k < s.size) && (s.get! (pos + k)).toNat / 64 == 2) = true → ∃ hk : pos + k < s.size, 128 ≤ (s[pos + k]'hk).toNat := by
    intro k hk
    simp only [Bool.and_eq_true, decide_eq_true_eq, beq_iff_eq] at hk
    refine ⟨hk.1, ?_⟩
    have e : s.get! (pos + k) = s[pos + k]'hk.1 := get_at s (pos + k) hk.1
    rw [e] at hk
    omega
  have h0 : ∀ k, k < 1 → ∃ hk : pos + k < s.size, 128 ≤ (s[pos + k]'hk).toNat := fun k hk => by
    obtain rfl : k = 0 := by omega
    exact ⟨h, ha⟩
  simp only [Utf8.decode, get_at s pos h, hn, if_false]
  split
  · rename_i h1
    simp only [Bool.and_eq_true] at h1
    split
    · intro k hk
      rcases Nat.lt_or_ge k 1 with h2 | h2
      · exact h0 k h2
      · obtain rfl : k = 1 := by simp at hk; omega
        exact key 1 (by simpa using h1.2)
    · exact h0
  · split
    · rename_i h1
      simp only [Bool.and_eq_true] at h1
      split
      · intro k hk
        rcases Nat.lt_or_ge k 1 with h2 | h2
        · exact h0 k h2
        · have : k = 1 ∨ k = 2 := by simp at hk; omega
          rcases this with rfl | rfl
          · exact key 1 (by simpa using h1.1.2)
          · exact key 2 (by simpa using h1.2)
      · exact h0
    · split
      · rename_i h1
        simp only [Bool.and_eq_true] at h1
        split
        · intro k hk
          rcases Nat.lt_or_ge k 1 with h2 | h2
          · exact h0 k h2
          · have : k = 1 ∨ k = 2 ∨ k = 3 := by simp at hk; omega
            rcases this with rfl | rfl | rfl
            · exact key 1 (by simpa using h1.1.1.2)
            · exact key 2 (by simpa using h1.1.2)
            · exact key 3 (by simpa using h1.2)
        · exact h0
      · exact h0

theorem quiet_add_same {P : Program} {f : FuncId} {args : Array Value} {w : World} {a n : Nat} {v : Value}
    (h : Calls P f args (w.drewN (a + n)) fun e w' => e = .returned v ∧ w' = w.drewN (a + n)) :
    Calls P f args (w.drewN (a + n)) fun e w'' => e = .returned v ∧ ∃ m, w'' = w.drewN (a + m) :=
  h.mono fun _ _ ⟨he, hm⟩ => ⟨he, n, hm⟩

set_option maxHeartbeats 4000000 in
set_option maxRecDepth 1000000 in
theorem rune_error (en : ByteArray) (w : World) (HA : Hid (∀ (j : Nat) (h : j < en.size), (en[j]'h).toNat < 128)) :
    Calls Tryd.prog 42 #[.string en, .int .i32 65533] w fun e w' => e = .returned (.int .i64 (-1)) ∧ Below w.heap.size w w' := by
  go_enter Tryd.func42, Tryd.ntmps42
  go_wp2_with fail
  go_loopg [5, 6] en.size (fun gk _ _ wx => ∃ i : Nat, i ≤ en.size ∧ en.size - i ≤ gk ∧ wx = w.iter en i)
  case atStart => exact ⟨0, by omega, by omega, rfl⟩
  case round =>
    obtain ⟨i, hi, hgk, rfl⟩ := hrel
    by_cases hlt : i < en.size
    · obtain ⟨q, rfl⟩ : ∃ q, gk = q + 1 := ⟨gk - 1, by omega⟩
      have ha := HA.out i hlt
      obtain ⟨x, hx⟩ : ∃ x : UInt8, en[i]'hlt = x := ⟨_, rfl⟩
      have hnx := fun ty => run_next_ascii (P := Tryd.prog) w en i ty hlt ha
      rw [hx] at ha hnx
      clear hx
      have hne : ((x.toNat : Int) == 65533) = false := beq_eq_false_iff_ne.2 (by omega)
      go_wp2
      go_roundg q
      case measure => omega
      case rel => exact ⟨i + 1, by omega, by omega, rfl⟩
    · have hnx := run_next_end (P := Tryd.prog) w en i
      have hnx := fun ty => hnx ty hlt
      go_wp2
      go_ret
      exact ⟨rfl, below_alloc (Below.refl _ _) _⟩

set_option maxHeartbeats 4000000 in
set_option maxRecDepth 1000000 in
theorem rune_bad (en : ByteArray) (r : Int) (w : World) (h : 128 ≤ r) (h2 : r ≤ 2147483647) (hne : (r == 65533) = false) (hv : Lib.validRune r = false) :
    Calls Tryd.prog 42 #[.string en, .int .i32 r] w fun e w' => e = .returned (.int .i64 (-1)) ∧ Below w.heap.size w w' := by
  have h1 : decide (r < 128) = false := decide_eq_false (by omega)
  have h0 : decide (0 ≤ r) = true := decide_eq_true (by omega)
  have HV := Lib.hid hv
  clear hv
  go_enter Tryd.func42, Tryd.ntmps42
  go_wp2_with (go_at_call 54; refine (Tryd.utf8_ValidRune r _).mono ?_; rintro e w' ⟨rfl, hw⟩; rw [hw, HV.out])
  go_ret
  exact ⟨rfl, Below.refl _ _⟩

set_option maxHeartbeats 4000000 in
set_option maxRecDepth 1000000 in
theorem rune_good2 (en rs : ByteArray) (r : Int) (x y : UInt8) (w : World) (h : 128 ≤ r) (h2 : r ≤ 2147483647) (hne : (r == 65533) = false) (hv : Lib.validRune r = true) (H2S : Hid (en.size = 2)) (hs1' : 1 < en.size) (hx : en[1]'hs1' = x) (hrs : Utf8.encode r = rs) (h3 : 1 < rs.size) (H3 : Hid (rs.size = 2)) (hy : rs[1]'h3 = y) (hxl : x.toNat < 128) (hyl : 128 ≤ y.toNat) :
    Calls Tryd.prog 42 #[.string en, .int .i32 r] w fun e w' => e = .returned (.int .i64 (-1)) ∧ Below w.heap.size w w' := by
  have h1 : decide (r < 128) = false := decide_eq_false (by omega)
  have h0 : decide (0 ≤ r) = true := decide_eq_true (by omega)
  have HV := Lib.hid hv
  clear hv
  have hxy : ((x.toNat : Int) == (y.toNat : Int)) = false := beq_eq_false_iff_ne.2 (by omega)
  have hxy2 : ((x.toNat : Int) != (y.toNat : Int)) = true := by rw [bne_iff_ne]; omega
  have hs1 : (1 : Int) < (en.size : Int) := by omega
  have hs2 : (2 : Int) ≤ (en.size : Int) := by omega
  have hs3 : ¬ ((en.size : Int) < 2) := by omega
  have hr1 : (1 : Int) < (rs.size : Int) := by omega
  have hrl : (rs.size : Int) - 1 = 1 := by have := H3.out; omega
  have HIB : Hid (∀ w, Calls Tryd.prog 32 #[.string (en.extract 2 en.size), .int .u8 y.toNat] w fun e w' => e = .returned (.int .i64 (-1)) ∧ w' = w) := Lib.hid (fun w => by
      refine (Tryd.strings_IndexByte _ _ _).mono ?_
      rintro e w' ⟨rfl, hw⟩
      have : (en.extract 2 en.size).data.toList = [] := by rw [Lib.extract_data, H2S.out]; simp
      rw [this]
      exact ⟨rfl, hw⟩)
  go_enter Tryd.func42, Tryd.ntmps42
  go_wp2_with (go_at_call 54; refine (Tryd.utf8_ValidRune r _).mono ?_; rintro e w' ⟨rfl, hw⟩; rw [hw, HV.out])
  go_step3
  go_wp2_with fail
  go_loopw [9, 10] (fun v u wr => v = .int .i64 1 ∧ u = .int .i64 0 ∧ wr = w) (fun _ _ _ => 0)
  case atStart => exact ⟨rfl, rfl, rfl⟩
  case round =>
      obtain ⟨rfl, rfl, rfl⟩ := hrel
      go_wp2_with fail
      go_step3
      go_wp2_with fail
      go_quiet (fail)
      go_wp2_with fail
      go_quiet ((go_at_call 32; exact quiet_add_same (HIB.out _)))
      go_wp2_with fail
      rw [Exit.noGoto_ret]
      go_wp2_with fail
      rw [Exit.noGoto_ret]
      go_wp2_with fail
      go_ret
      exact ⟨rfl, pw_below_drewN (Below.refl _ _) _⟩

set_option maxHeartbeats 4000000 in
set_option maxRecDepth 1000000 in
theorem rune_good3 (en rs : ByteArray) (r : Int) (w : World) (h : 128 ≤ r) (h2 : r ≤ 2147483647) (hne : (r == 65533) = false) (hv : Lib.validRune r = true) (hrs : Utf8.encode r = rs) (h3 : 3 ≤ rs.size) (h4 : rs.size ≤ 4) (h5 : en.size ≤ 2) :
    Calls Tryd.prog 42 #[.string en, .int .i32 r] w fun e w' => e = .returned (.int .i64 (-1)) ∧ Below w.heap.size w w' := by
  have h1 : decide (r < 128) = false := decide_eq_false (by omega)
  have h0 : decide (0 ≤ r) = true := decide_eq_true (by omega)
  have HV := Lib.hid hv
  clear hv
  go_enter Tryd.func42, Tryd.ntmps42
  go_wp2_with (go_at_call 54; refine (Tryd.utf8_ValidRune r _).mono ?_; rintro e w' ⟨rfl, hw⟩; rw [hw, HV.out])
  go_step3
  go_wp2_with fail
  go_loopw [9, 10] (fun v u wr => v = .int .i64 ((rs.size : Int) - 1) ∧ u = .int .i64 0 ∧ wr = w) (fun _ _ _ => 0)
  case atStart => exact ⟨rfl, rfl, rfl⟩
  case round =>
      obtain ⟨rfl, rfl, rfl⟩ := hrel
      have hno : decide ((rs.size : Int) - 1 < (en.size : Int)) = false := decide_eq_false (by omega)
      go_wp2_with fail
      rw [Exit.noGoto_ret]
      go_wp2_with fail
      go_ret
      exact ⟨rfl, Below.refl _ _⟩

theorem rune_hi (r : Int) (h : 128 ≤ r) (h2 : r ≤ 2147483647) (w : World) :
    Calls Tryd.prog 42 #[.string ends, .int .i32 r] w fun e w' => e = .returned (.int .i64 (-1)) ∧ Below w.heap.size w w' := by
  have hA : ∀ (j : Nat) (h : j < ends.size), (ends[j]'h).toNat < 128 := by
    intro j hj
    have : j = 0 ∨ j = 1 := by have h : ends.size = 2 := rfl; omega
    rcases this with rfl | rfl
    · exact (by decide : (34 : UInt8).toNat < 128)
    · exact (by decide : (10 : UInt8).toNat < 128)
  by_cases he : r = 65533
  · subst he
    exact rune_error ends w (Lib.hid hA)
  · have hne : (r == 65533) = false := beq_eq_false_iff_ne.2 he
    cases hv : Lib.validRune r with
    | false => exact rune_bad ends r w h h2 hne hv
    | true =>
      obtain ⟨e1, e2, e3⟩ := encode_facts r (by rw [validRune_eq]; exact hv) h
      by_cases h3 : (Utf8.encode r).size = 2
      · have hlt : 1 < (Utf8.encode r).size := by omega
        have hy : 128 ≤ ((Utf8.encode r)[1]'hlt).toNat := by
          have := e3 (by omega)
          simpa only [h3] using this
        exact rune_good2 ends _ r _ _ w h h2 hne hv (Lib.hid rfl) (by decide) rfl rfl hlt (Lib.hid h3) rfl (hA 1 (by decide)) hy
      · exact rune_good3 ends _ r w h h2 hne hv rfl (by omega) e2 (Nat.le_refl 2)

theorem indexAny_step (s : ByteArray) (i n : Nat) (h : Lib.NoAny s.data.toList [34, 10] i) (hn : ∀ k, k < n → ∃ hk : i + k < s.size, 128 ≤ (s[i + k]'hk).toNat) : Lib.NoAny s.data.toList [34, 10] (i + n) := by
  intro j b hj hb
  by_cases hij : j < i
  · exact h j b hij hb
  · obtain ⟨hk, h1⟩ := hn (j - i) (by omega)
    have e : i + (j - i) = j := by omega
    have hb' : (s[j]'(by omega)) = b := by
      have := Lib.data_getElem? s j (by omega)
      rw [this] at hb
      exact Option.some.inj hb
    have h3 : 128 ≤ b.toNat := by
      rw [← hb']
      simpa only [e] using h1
    have h34 : b ≠ 34 := by rintro rfl; revert h3; decide
    have h10 : b ≠ 10 := by rintro rfl; revert h3; decide
    simp [h34, h10]

set_option maxHeartbeats 4000000 in
set_option maxRecDepth 1000000 in
theorem indexAny_short_of (s en : ByteArray) (w : World) (h8 : s.size ≤ 8) (hemp : en.toList.isEmpty = false) (hn1 : ((en.size : Int) == 1) = false) (HA : Hid (en.data.toList = [34, 10]))
    (HR : Hid (∀ (r : Int), 128 ≤ r → r ≤ 2147483647 → ∀ w : World, Calls Tryd.prog 42 #[.string en, .int .i32 r] w fun e w' => e = .returned (.int .i64 (-1)) ∧ Below w.heap.size w w')) :
    Calls Tryd.prog 34 #[.string s, .string en] w fun e w' => e = .returned (.int .i64 (Lib.indexAny s.data.toList [34, 10])) ∧ Below w.heap.size w w' := by
  have h8z : decide ((8 : Int) < (s.size : Int)) = false := decide_eq_false (by omega)
  go_enter Tryd.func34, Tryd.ntmps34
  go_wp2_with (go_at_call 43; refine (Tryd.strings_shouldUseASCIISet _ _).mono ?_; rintro e w' ⟨rfl, hw⟩; rw [hw, h8z])
  go_loopg [9, 10] s.size (fun gk _ _ wx => ∃ i : Nat, i ≤ s.size ∧ s.size - i ≤ gk ∧ Aside0 (wx.heap[w.heap.size]? = some (.stringIter s i)) ∧ Aside0 (Below w.heap.size w wx) ∧ Aside0 (Lib.NoAny s.data.toList [34, 10] i))
  case atStart => exact ⟨0, by omega, by omega, ⟨World.iter_heap _ _ _⟩, ⟨below_alloc (Below.refl _ _) _⟩, ⟨Lib.NoAny.zero _ _⟩⟩
  case round =>
    obtain ⟨i, hi, hgk, HI, HB, HN⟩ := hrel
    by_cases hlt : i < s.size
    · have hnx : ∀ ty, (Instr.next (.pointer (some ⟨w.heap.size, 0, none⟩)) true ty).run Tryd.prog wr = _ := fun ty => Lib.run_next_any_at wr w.heap.size s i ty HI.out hlt
      have hit2 := Lib.hid (Lib.iterAt_heap wr w.heap.size s i (i + (Utf8.decode s i).2) HI.out)
      have hbw2 := Lib.hid (Lib.below_iterAt HB.out (k := w.heap.size) (Nat.le_refl _) s (i + (Utf8.decode s i).2))
      have hwp := width_pos s i hlt
      have hdl := decode_le s i
      obtain ⟨q, rfl⟩ : ∃ q, gk = q + 1 := ⟨gk - 1, by omega⟩
      have hsz2 : w.heap.size < (wr.iterAt w.heap.size s (i + (Utf8.decode s i).2)).heap.size := (Array.getElem?_eq_some_iff.1 hit2.out).1
      by_cases ha : (s[i]'hlt).toNat < 128
      · obtain ⟨x, hx⟩ : ∃ x : UInt8, s[i]'hlt = x := ⟨_, rfl⟩
        have hde := decode_ascii s i hlt ha
        have hxl : s.data.toList[i]? = some x := by rw [← hx]; exact Lib.data_getElem? s i hlt
        rw [hx] at ha hde
        rw [hde] at hnx hit2 hbw2 hsz2
        have Hx := Lib.hid hxl
        clear hde hwp hdl hx hxl
        simp only at hnx hit2 hbw2 hsz2
        have hcon := Lib.contains_iff_indexByte en.data.toList x
        rw [HA.out] at hcon
        have hback : ((x.toNat : Int)).toNat.toUInt8 = x := by simp
        have HBK := Lib.hid hback
        clear hback
        cases hin : ([34, 10] : List UInt8).contains x
        · rw [hin] at hcon
          have hlt2 : ¬ ((0 : Int) ≤ Lib.indexByte [34, 10] x) := of_decide_eq_false hcon.symm
          have HIN := Lib.hid hin
          clear hcon hin
          go_wp2_with (go_at_call 42; refine (Tryd.strings_IndexRune_ascii _ _ _ (by omega) (by omega)).mono ?_; rintro e w' ⟨rfl, hw⟩; rw [hw, HBK.out, HA.out])
          go_roundg q
          case measure => omega
          case rel => exact ⟨i + 1, by omega, by omega, ⟨hit2.out⟩, ⟨hbw2.out⟩, ⟨HN.out.succ Hx.out HIN.out⟩⟩
        · rw [hin] at hcon
          have hge : (0 : Int) ≤ Lib.indexByte [34, 10] x := of_decide_eq_true hcon.symm
          have HIN := Lib.hid hin
          clear hcon hin
          go_wp2_with (go_at_call 42; refine (Tryd.strings_IndexRune_ascii _ _ _ (by omega) (by omega)).mono ?_; rintro e w' ⟨rfl, hw⟩; rw [hw, HBK.out, HA.out])
          go_ret
          exact ⟨by rw [Lib.indexAny_hit HN.out Hx.out HIN.out]; rfl, hbw2.out⟩
      · have hdh := decode_high s i hlt (by omega)
        have hc := Lib.hid (decode_cont s i hlt (by omega))
        obtain ⟨d, hd⟩ : ∃ d, Utf8.decode s i = d := ⟨_, rfl⟩
        rw [hd] at hnx hit2 hbw2 hwp hdl hdh hc hsz2
        clear hd
        obtain ⟨r, n⟩ := d
        simp only at hnx hit2 hbw2 hwp hdl hdh hc hsz2
        have hrange : i + n ≤ s.size := by
          obtain ⟨h1, _⟩ := hc.out (n - 1) (by omega)
          omega
        go_wp2_with (go_at_call 42; refine (HR.out _ (by omega) (by omega) _).mono ?_; rintro e w' ⟨rfl, hw⟩; have HW := Lib.hid hw; clear hw)
        go_roundg q
        case measure => omega
        case rel => exact ⟨i + n, by omega, by omega, ⟨blk_below hit2.out HW.out⟩, ⟨below_step hbw2.out HW.out⟩, ⟨indexAny_step s i n HN.out hc.out⟩⟩
    · have hnx : ∀ ty, (Instr.next (.pointer (some ⟨w.heap.size, 0, none⟩)) true ty).run Tryd.prog wr = _ := fun ty => Lib.run_next_end_at wr w.heap.size s i ty HI.out hlt
      go_wp2
      go_ret
      obtain rfl : i = s.size := by omega
      exact ⟨by rw [Lib.indexAny_none (by rw [← Lib.size_eq]; exact HN.out)]; rfl, HB.out⟩

theorem indexAny_any (s : ByteArray) (w : World) (hs : s.size < 4294967281) :
    Calls Tryd.prog 34 #[.string s, .string ends] w fun e w' => e = .returned (.int .i64 (Lib.indexAny s.data.toList [34, 10])) ∧ Below w.heap.size w w' := by
  by_cases h8 : s.size ≤ 8
  · exact indexAny_short_of s ends w h8 (by rw [Lib.toList_data]; rfl) rfl (Lib.hid rfl) (Lib.hid rune_hi)
  · refine (Tryd.strings_IndexAny_long (fun w => by kernel_rfl) s ends w (Nat.le_refl 2) (by omega) hs (by decide) ?_).mono ?_
    · intro j b hb
      have : b = 34 ∨ b = 10 := by
        have := List.mem_of_getElem? hb
        have e : ends.data.toList = [34, 10] := rfl
        rw [e] at this
        simpa using this
      rcases this with rfl | rfl <;> decide
    · rintro e w' ⟨rfl, rfl⟩
      exact ⟨rfl, below_alloc (below_alloc (Below.refl _ _) _) _⟩
end Go.Proofs.YtalgccjkfanaoaaDoor.LxW
