/- The scanner's method 'gap': it returns the end of the gaps that begin at an offset. -/
import Derived.Test.YtalgccjkfanaoaaDoorLexA
import Derived.Lib.IndexLaws
import Derived.Lib.IndexBytes
namespace Go.Proofs.YtalgccjkfanaoaaDoor.LxW
open Go.RowKit Go.Proofs.YtalgccjkfanaoaaDoorW.PrintWords Go.Proofs.YtalgccjkfanaoaaDoorW.PrintLast Go.Proofs.YtalgccjkfanaoaaDoorW.PrintMore
open Go.Proofs.YtalgccjkfanaoaaDoor Go.Proofs.YtalgccjkfanaoaaDoor.LxP
set_option linter.unusedVariables false
set_option linter.unusedSimpArgs false

theorem all_bytes {p : UInt8 → Prop} (h : ∀ n : Fin 256, p (UInt8.ofNat n.1)) (c : UInt8) : p c := by
  have := h ⟨c.toNat, c.toNat_lt⟩
  rwa [UInt8.ofNat_toNat] at this
theorem cls_facts : ∀ c : UInt8, (((cls c : Int) == 1) = isB c) ∧ (((cls c : Int) == 2) = (c == 35)) ∧ (((cls c : Int) == 3) = isL c) ∧ (((cls c : Int) == 4) = isD c) ∧ (((cls c : Int) == 5) = (c == 95)) ∧ (((cls c : Int) == 6) = (c == 34)) ∧ (((cls c : Int) == 7) = (c == 33)) ∧ (((cls c : Int) == 8) = (c == 60 || c == 62)) ∧ (((cls c : Int) == 9) = isS c) := all_bytes (by decide +kernel)
theorem runB (c : UInt8) : ([1] : List Int).contains (cls c : Int) = isB c := by
  rw [← (cls_facts c).1]
  simp only [List.contains, List.elem]
  cases ((cls c : Int) == 1) <;> rfl

/-- Where the gaps that begin at an offset end. -/
def gapE (s : ByteArray) (i : Nat) : Nat := s.size - (gapS false (rest s i)).length
theorem skipB : ∀ l : List UInt8, gapS false (l.drop (runN [1] l)) = gapS false l ∧ (∀ c r, l.drop (runN [1] l) = c :: r → isB c = false)
  | [] => ⟨rfl, by simp [runN]⟩
  | c :: r => by
    by_cases h : isB c = true
    · have hc := runB c
      rw [h] at hc
      rw [runN_yes hc, List.drop_succ_cons]
      obtain ⟨h1, h2⟩ := skipB r
      exact ⟨by rw [h1]; simp [gapS, h], h2⟩
    · have h' : isB c = false := by simpa using h
      have hc := runB c
      rw [h'] at hc
      rw [runN_no hc, List.drop_zero]
      exact ⟨rfl, by intro d s e; cases e; exact h'⟩
theorem gapS_le : ∀ (b : Bool) (l : List UInt8), (gapS b l).length ≤ l.length
  | b, [] => by cases b <;> simp [gapS]
  | false, c :: r => by
    simp only [gapS]
    split
    · have := gapS_le false r; simp only [List.length_cons]; omega
    · split
      · have := gapS_le true r; simp only [List.length_cons]; omega
      · exact Nat.le_refl _
  | true, c :: r => by
    simp only [gapS]
    split
    · have := gapS_le false r; simp only [List.length_cons]; omega
    · have := gapS_le true r; simp only [List.length_cons]; omega
theorem gap_in : ∀ l : List UInt8, (Lib.indexByte l 10 = -1 → gapS true l = []) ∧ (∀ o : Nat, Lib.indexByte l 10 = o → o < l.length ∧ gapS true l = gapS false (l.drop o))
  | [] => ⟨fun _ => rfl, fun o h => by simp [Lib.indexByte] at h⟩
  | c :: r => by
    obtain ⟨h1, h2⟩ := gap_in r
    have hge := Lib.indexByte_ge r 10
    unfold Lib.indexByte
    by_cases hc : (c == 10) = true
    · rw [if_pos hc]
      refine ⟨fun h => by omega, fun o ho => ?_⟩
      obtain rfl : o = 0 := by omega
      have hb : isB c = true := by simp only [isB, Bool.or_eq_true]; exact .inr hc
      exact ⟨by simp, by rw [List.drop_zero]; simp [gapS, hc, hb]⟩
    · rw [if_neg hc]
      by_cases hn : (Lib.indexByte r 10 == -1) = true
      · rw [if_pos hn]
        refine ⟨fun _ => ?_, fun o ho => by omega⟩
        simp only [gapS]
        rw [if_neg hc]
        exact h1 (by simpa using hn)
      · rw [if_neg hn]
        have hn' : Lib.indexByte r 10 ≠ -1 := by simpa using hn
        refine ⟨fun h => by omega, fun o ho => ?_⟩
        obtain ⟨q, rfl⟩ : ∃ q, o = q + 1 := ⟨o - 1, by omega⟩
        obtain ⟨h3, h4⟩ := h2 q (by omega)
        refine ⟨by simp only [List.length_cons]; omega, ?_⟩
        simp only [gapS]
        rw [if_neg hc, h4, List.drop_succ_cons]
theorem gap_hash (r : List UInt8) : (Lib.indexByte (35 :: r) 10 = -1 → gapS false (35 :: r) = []) ∧ (∀ o : Nat, Lib.indexByte (35 :: r) 10 = o → 1 ≤ o ∧ o ≤ r.length ∧ gapS false ((35 :: r).drop o) = gapS false (35 :: r)) := by
  obtain ⟨h1, h2⟩ := gap_in r
  have hge := Lib.indexByte_ge r 10
  have he : gapS false (35 :: r) = gapS true r := by simp [gapS, isB]
  unfold Lib.indexByte
  rw [if_neg (by decide), he]
  by_cases hn : (Lib.indexByte r 10 == -1) = true
  · rw [if_pos hn]
    exact ⟨fun _ => h1 (by simpa using hn), fun o ho => by omega⟩
  · rw [if_neg hn]
    have hn' : Lib.indexByte r 10 ≠ -1 := by simpa using hn
    refine ⟨fun h => by omega, fun o ho => ?_⟩
    obtain ⟨q, rfl⟩ : ∃ q, o = q + 1 := ⟨o - 1, by omega⟩
    obtain ⟨h3, h4⟩ := h2 q (by omega)
    exact ⟨by omega, by omega, by rw [List.drop_succ_cons, h4]⟩
theorem rest_drop (s : ByteArray) (i n : Nat) : (rest s i).drop n = rest s (i + n) := by unfold rest; rw [List.drop_drop]

theorem Cls.lit1 (w : World) (x : Int) : Cls (w.alloc (.cells #[.int .i64 x] 3)) w.heap.size [x] := fun j hj => by
  obtain rfl : j = 0 := by simp at hj; omega
  rw [blk_cell (blk_new w _)]
  rfl

set_option maxHeartbeats 2000000 in
theorem gap_any (g : Nat) (s : ByteArray) (i : Nat) (w : World) (hs : s.size ≤ 9223372036854775806) (hg : Scan w g s) (hi : i ≤ s.size) :
    Calls Tryd.prog 23 #[.pointer (some ⟨g, 0, none⟩), .int .i64 i] w fun e w' => e = .returned (.int .i64 ((gapE s i : Nat) : Int)) ∧ Below w.heap.size w w' := by
  have HG := Lib.hid hg
  clear hg
  go_enter Tryd.func23, Tryd.ntmps23
  go_wp2_with (go_at_call 30; refine (while_any g s i w.heap.size 1 [1] _ hs (by exact HG.out.below (below_alloc (Below.refl _ _) _)) (by simp) (by exact Cls.lit1 w 1) hi).mono ?_; rintro e w' ⟨rfl, m, rfl⟩)
  go_loopw [1] (fun v wr => ∃ (j : Nat), j ≤ s.size ∧ v = .int .i64 j ∧ Aside0 (Below w.heap.size w wr) ∧ Aside0 (gapS false (rest s j) = gapS false (rest s i)) ∧ Aside0 (∀ c r, rest s j = c :: r → isB c = false)) (fun v _ => s.size - (intOf v).toNat)
  case atStart =>
    obtain ⟨h1, h2⟩ := skipB (rest s i)
    rw [rest_drop] at h1 h2
    have h3 := runN_le [1] (rest s i)
    rw [rest_length] at h3
    exact ⟨i + runN [1] (rest s i), by omega, rfl, ⟨pw_below_drewN (below_alloc (Below.refl _ _) _) _⟩, ⟨h1⟩, ⟨h2⟩⟩
  case round =>
    obtain ⟨j, hj, rfl, HB, HE, HN⟩ := hrel
    have h0 := (HG.out.below HB.out).1
    have hj1 : (j : Int) ≤ (s.size : Int) := by omega
    by_cases hlt : j < s.size
    · have hx := rest_cons s j hlt
      obtain ⟨x, hxe⟩ : ∃ x : UInt8, s[j]'hlt = x := ⟨_, rfl⟩
      rw [hxe] at hx
      have HX := Lib.hid hx
      clear hx
      have HXE := Lib.hid hxe
      clear hxe
      by_cases hc : x = 35
      · subst hc
        obtain ⟨q1, q2⟩ := gap_hash (rest s (j + 1))
        rw [← HX.out] at q1 q2
        have hd : (s.extract j s.size).data.toList = rest s j := Lib.extract_to_end s j
        have HD := Lib.hid hd
        clear hd
        have hge := Lib.indexByte_ge (rest s j) 10
        have hcl : ((cls 35 : Nat) : Int) = 2 := rfl
        by_cases hn : Lib.indexByte (rest s j) 10 = -1
        · have HQ := Lib.hid (q1 hn)
          have HNN := Lib.hid hn
          clear q1 q2 hn hge
          go_wp2_with (first
            | (go_at_call 31; refine (at_in g s j _ (by omega) (by exact HG.out.below HB.out) hlt).mono ?_; rintro e w' ⟨rfl, m, rfl⟩; rw [HXE.out])
            | (go_at_call 32; refine (Tryd.strings_IndexByte _ _ _).mono ?_; rintro e w' ⟨rfl, hw⟩; rw [hw, HD.out, show ((10 : Int).toNat.toUInt8) = 10 from rfl, HNN.out]))
          go_ret
          refine ⟨ret_int ?_, pw_below_drewN HB.out _⟩
          have h1 := HE.out
          unfold gapE
          rw [← h1, HQ.out]
          rfl
        · obtain ⟨o, ho⟩ : ∃ o : Nat, Lib.indexByte (rest s j) 10 = o := ⟨(Lib.indexByte (rest s j) 10).toNat, by omega⟩
          obtain ⟨q3, q4, q5⟩ := q2 o ho
          rw [rest_length] at q4
          rw [rest_drop] at q5
          have HQ := Lib.hid q5
          have HO := Lib.hid ho
          have ho0 : (0 : Int) ≤ (o : Int) := by omega
          have hjo : ((j : Int) + (o : Int)) ≤ (s.size : Int) := by omega
          have hno : ¬ ((o : Int) < 0) := by omega
          clear q1 q2 hn hge q5 ho
          obtain ⟨q6, q7⟩ := skipB (rest s (j + o))
          rw [rest_drop] at q6 q7
          have q8 := runN_le [1] (rest s (j + o))
          rw [rest_length] at q8
          have HQ6 := Lib.hid q6
          have HQ7 := Lib.hid q7
          clear q6 q7
          go_wp2_with (first
            | (go_at_call 31; refine (at_in g s j _ (by omega) (by exact HG.out.below HB.out) hlt).mono ?_; rintro e w' ⟨rfl, m, rfl⟩; rw [HXE.out])
            | (go_at_call 32; refine (Tryd.strings_IndexByte _ _ _).mono ?_; rintro e w' ⟨rfl, hw⟩; rw [hw, HD.out, show ((10 : Int).toNat.toUInt8) = 10 from rfl, HO.out])
            | (go_at_call 30; rw [show ((j : Int) + (o : Int)) = ((j + o : Nat) : Int) from by omega]; refine (while_any g s (j + o) _ 1 [1] _ hs (by exact (HG.out.below HB.out).below (below_alloc (pw_below_drewN (Below.refl _ _) _) _)) (by simp) (by exact Cls.lit1 _ 1) (by omega)).mono ?_; rintro e w' ⟨rfl, m, rfl⟩))
          go_roundw
          case rel => exact ⟨j + o + runN [1] (rest s (j + o)), by omega, by go_num, ⟨by repeat (first | exact HB.out | apply pw_below_drewN | apply below_alloc)⟩, ⟨by rw [HQ6.out, HQ.out]; exact HE.out⟩, ⟨HQ7.out⟩⟩
          case measure => simp [intOf]; omega
      · have hcl : (((cls x : Nat) : Int) == 2) = false := by rw [(cls_facts x).2.1]; simpa using hc
        go_wp2_with (first
            | (go_at_call 31; refine (at_in g s j _ (by omega) (by exact HG.out.below HB.out) hlt).mono ?_; rintro e w' ⟨rfl, m, rfl⟩; rw [HXE.out]))
        go_ret
        refine ⟨ret_int ?_, pw_below_drewN HB.out _⟩
        have h1 := HE.out
        have h2 := HN.out x _ HX.out
        unfold gapE
        rw [← h1, HX.out, gapS_here h2 (by simpa using hc), ← HX.out, rest_length]
        omega
    · have hcl : ((0 : Int) == 2) = false := rfl
      go_wp2_with (first
            | (go_at_call 31; refine (at_out g s j _ (by omega) (by exact HG.out.below HB.out) hlt).mono ?_; rintro e w' ⟨rfl, m, rfl⟩))
      go_ret
      refine ⟨ret_int ?_, pw_below_drewN HB.out _⟩
      have h1 := HE.out
      unfold gapE
      rw [← h1, rest_nil s j hlt]
      simp [gapS]
      omega
end Go.Proofs.YtalgccjkfanaoaaDoor.LxW
