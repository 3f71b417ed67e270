/- The reference's gap, as the plain gap; the width of a token. -/
import Derived.Test.YtalgccjkfanaoaaDoorLexS
import Derived.Test.YtalgccjkfanaoaaDoorPL8
namespace Go.Proofs.YtalgccjkfanaoaaDoor.LxW
open Go.RowKit Go.Proofs.YtalgccjkfanaoaaDoorW.PrintWords Go.Proofs.YtalgccjkfanaoaaDoorW.PrintLast Go.Proofs.YtalgccjkfanaoaaDoorW.PrintMore
open Go.Proofs.YtalgccjkfanaoaaDoor Go.Proofs.YtalgccjkfanaoaaDoor.LxP Go.Proofs.YtalgccjkfanaoaaDoor.PL
set_option linter.unusedVariables false
set_option linter.unusedSimpArgs false

theorem width_ok (p : Nat × Tk) (hb : p.2.text.length ≤ 1000000) (hw : (LxP.written p.2).length = p.2.width) : customhouseref07_Width.f (toS p).f0 (toS p).f1 (toS p).f2 (toS p).f3 = some (p.2.width : Int) := by
  have hsz : (bs p.2.text).size = p.2.text.length := by rw [← byts_length, byts_bs]
  show customhouseref07_Width.f (p.2.kind : Int) (p.1 : Int) (p.2.n : Int) (bs p.2.text) = _
  unfold customhouseref07_Width.f
  unfold LxP.written at hw
  by_cases h : p.2.kind = 3
  · rw [if_pos h] at hw
    simp only [List.length_cons, List.length_append, List.length_nil] at hw
    rw [if_pos (by omega), hsz, wrap_id (by omega) (by omega)]
    congr 1
    omega
  · rw [if_neg h] at hw
    rw [if_neg (by omega), hsz, hw]

theorem has_four : ∀ c : UInt8, customhouseref07_has.f 4 (⟨#[32, 9, 10]⟩ : ByteArray) (c.toNat : Int) = some (isB c) := by
  apply all_bytes
  decide +kernel
theorem has_gap (c : UInt8) : ∀ m, customhouseref07_has.f (m + 4) (⟨#[32, 9, 10]⟩ : ByteArray) (c.toNat : Int) = some (isB c)
  | 0 => has_four c
  | m + 1 => customhouseref07_has.mono _ _ (m + 4) _ (has_gap c m)
theorem bt_some {s : ByteArray} {i : Nat} {c : UInt8} (h : (byts s)[i]? = some c) : bt s (i : Int) = (c.toNat : Int) := by
  obtain ⟨h1, h2⟩ := List.getElem?_eq_some_iff.1 h
  rw [byts_length] at h1
  unfold bt
  rw [Int.toNat_natCast, dif_pos h1, ← h2]
  rfl

theorem gap_ref (s : ByteArray) (hs : s.size ≤ 1000000) : ∀ (n i k : Nat), s.size - i = n → i ≤ s.size → 2 * n + 8 ≤ k →
    customhouseref07_gap.l0 k s i = some (((s.size - (gapS false ((byts s).drop i)).length : Nat)) : Int) ∧
    customhouseref07_gap.l1 k s i = some (((s.size - (gapS true ((byts s).drop i)).length : Nat)) : Int) := by
  intro n
  induction n with
  | zero =>
    intro i k h1 h2 h3
    obtain ⟨k, rfl⟩ : ∃ m, k = m + 2 := ⟨k - 2, by omega⟩
    have e : (byts s).drop i = [] := List.drop_of_length_le (by rw [byts_length]; omega)
    have hi : i = s.size := by omega
    rw [e]
    subst hi
    have a : ∀ b, gapS b [] = [] := by intro b; cases b <;> rfl
    rw [a, a]
    simp only [customhouseref07_gap.l0, customhouseref07_gap.l1]
    rw [if_neg (by omega)]
    exact ⟨by simp, by simp⟩
  | succ n ih =>
    intro i k h1 h2 h3
    obtain ⟨k, rfl⟩ : ∃ m, k = m + 6 := ⟨k - 6, by omega⟩
    have hi : i < (byts s).length := by rw [byts_length]; omega
    have hc : (byts s)[i]? = some (byts s)[i] := List.getElem?_eq_getElem hi
    have hd : (byts s).drop i = (byts s)[i] :: (byts s).drop (i + 1) := by rw [← List.drop_eq_getElem_cons]
    generalize (byts s)[i] = c at hc hd
    have hb := bt_some hc
    have w1 : wrap64 ((i : Int) + 1) = ((i + 1 : Nat) : Int) := by rw [wrap_id (by omega) (by omega)]; rfl
    have i4 := ih (i + 1) (k + 4) (by omega) (by omega) (by omega)
    have i5 := ih (i + 1) (k + 5) (by omega) (by omega) (by omega)
    have hsz : (i : Int) < (s.size : Int) := by omega
    have hlt : (0 : Int) ≤ (i : Int) := by omega
    rw [hd]
    have H10 : ((c.toNat : Int) = 10) = (c = 10) := by
      apply propext
      constructor
      · intro h; exact UInt8.toNat_inj.1 (by have : (10 : UInt8).toNat = 10 := rfl; omega)
      · rintro rfl; rfl
    have H35 : ((c.toNat : Int) = 35) = (c = 35) := by
      apply propext
      constructor
      · intro h; exact UInt8.toNat_inj.1 (by have : (35 : UInt8).toNat = 35 := rfl; omega)
      · rintro rfl; rfl
    have L1 : ∀ j, (c ≠ 10) → customhouseref07_gap.l1 (j + 1) s i = customhouseref07_gap.l1 j s ((i + 1 : Nat) : Int) := by
      intro j hne
      conv => lhs; unfold customhouseref07_gap.l1
      simp only [if_pos hsz, if_pos hlt, hb, H10, if_neg hne, w1]
    have L0 : ∀ j, isB c = true → customhouseref07_gap.l0 (j + 5) s i = customhouseref07_gap.l0 (j + 4) s ((i + 1 : Nat) : Int) := by
      intro j hne
      conv => lhs; unfold customhouseref07_gap.l0
      simp only [if_pos hsz, if_pos hlt, hb, has_gap, Option.bind_some, hne, if_true, w1]
    constructor
    · by_cases hB : isB c = true
      · rw [L0 _ hB, i5.1]
        simp [gapS, hB]
      · have hB' : isB c = false := by simpa using hB
        by_cases h35 : c = 35
        · have e : customhouseref07_gap.l0 (k + 6) s i = customhouseref07_gap.l1 (k + 5) s i := by
            conv => lhs; unfold customhouseref07_gap.l0
            simp only [if_pos hsz, if_pos hlt, hb, has_gap, Option.bind_some, hB', H35]
            rw [if_neg (by decide), if_pos h35]
          rw [e, L1 _ (by rw [h35]; decide), i4.2]
          have hx : gapS false (c :: (byts s).drop (i + 1)) = gapS true ((byts s).drop (i + 1)) := by rw [h35]; rfl
          rw [hx]
        · conv => lhs; unfold customhouseref07_gap.l0
          simp only [if_pos hsz, if_pos hlt, hb, has_gap, Option.bind_some, hB', H35]
          rw [if_neg (by decide), if_neg h35]
          have : gapS false (c :: (byts s).drop (i + 1)) = c :: (byts s).drop (i + 1) := gapS_here hB' (by simpa using h35)
          rw [this, ← hd, List.length_drop, byts_length]
          rw [Option.some.injEq]
          omega
    · by_cases h10 : c = 10
      · have e : customhouseref07_gap.l1 (k + 6) s i = customhouseref07_gap.l0 (k + 5) s i := by
          conv => lhs; unfold customhouseref07_gap.l1
          simp only [if_pos hsz, if_pos hlt, hb, H10]
          rw [if_pos h10]
        rw [e, L0 _ (by rw [h10]; rfl), i4.1]
        simp [gapS, h10]
      · rw [L1 _ h10, i5.2]
        simp [gapS, h10]

theorem gaps_eq (s : ByteArray) (k : Nat) (hs : s.size ≤ 1000000) (hk : 2 * s.size + 8 ≤ k) : customhouseref07_Gaps.f k s = some (decide (gapS false (byts s) = [])) := by
  unfold customhouseref07_Gaps.f customhouseref07_gap.f
  have e := (gap_ref s hs s.size 0 k (by omega) (by omega) hk).1
  have e' : customhouseref07_gap.l0 k s 0 = some (((s.size - (gapS false (byts s)).length : Nat)) : Int) := e
  have hle := gapS_le false (byts s)
  rw [byts_length] at hle
  rw [e']
  simp only [Option.bind_some, Option.some.injEq]
  by_cases h : gapS false (byts s) = []
  · rw [h]; simp
  · rw [decide_eq_false h]
    have : (gapS false (byts s)).length ≠ 0 := by simpa using h
    rw [beq_eq_false_iff_ne]
    omega
theorem gaps_ok {s : ByteArray} {k : Nat} {b : Bool} (h : st false (byts s) = some b) (hs : s.size ≤ 1000000) (hk : 2 * s.size + 8 ≤ k) : customhouseref07_Gaps.f k s = some true := by
  rw [gaps_eq s k hs hk, gapS_of_st h]
  rfl
theorem gaps_inv {s : ByteArray} (h : gapS false (byts s) = []) : ∃ b, st false (byts s) = some b := by
  rcases gap_split false (byts s) with ⟨_, b⟩ | ⟨g, c, r, _, e, _⟩
  · exact b
  · rw [h] at e; cases e
end Go.Proofs.YtalgccjkfanaoaaDoor.LxW
