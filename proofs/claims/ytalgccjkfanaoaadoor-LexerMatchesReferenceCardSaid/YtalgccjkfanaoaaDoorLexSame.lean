/- The comparison of two lists of tokens whose offsets differ by a number. -/
import Derived.Test.YtalgccjkfanaoaaDoorLexL
import Derived.Test.YtalgccjkfanaoaaDoorLexS
import Derived.Test.YtalgccjkfanaoaaDoorPL3
namespace Go.Proofs.YtalgccjkfanaoaaDoor.LxW
open Go.RowKit Go.Proofs.YtalgccjkfanaoaaDoorW.PrintWords Go.Proofs.YtalgccjkfanaoaaDoorW.PrintLast Go.Proofs.YtalgccjkfanaoaaDoorW.PrintMore
open Go.Proofs.YtalgccjkfanaoaaDoor Go.Proofs.YtalgccjkfanaoaaDoor.LxP Go.Proofs.YtalgccjkfanaoaaDoor.PL
set_option linter.unusedVariables false
set_option linter.unusedSimpArgs false

/-- Same: the offsets of the second list are greater by a number. -/
theorem same_true (us vs : List (Nat × Tk)) (d : Nat) (hv : vs = shift d us) (hb : ∀ p ∈ us, p.1 + d ≤ 1000000) (hl : us.length ≤ 1000000) : ∀ (n k i : Nat), i ≤ us.length → us.length - i = n → n < k → customhouseref07_Same.l0 k (us.map toS) d (vs.map toS) i = some true := by
  intro n
  induction n with
  | zero =>
    intro k i h1 h2 h3
    obtain ⟨k, rfl⟩ : ∃ m, k = m + 1 := ⟨k - 1, by omega⟩
    simp only [customhouseref07_Same.l0]
    rw [if_neg (by rw [List.length_map]; omega)]
  | succ n ih =>
    intro k i h1 h2 h3
    obtain ⟨k, rfl⟩ : ∃ m, k = m + 1 := ⟨k - 1, by omega⟩
    have hi : i < us.length := by omega
    have hp : us[i]? = some us[i] := List.getElem?_eq_getElem hi
    have hq : vs[i]? = some (us[i].1 + d, us[i].2) := by rw [hv]; unfold shift; rw [List.getElem?_map, hp]; rfl
    have hm := hb us[i] (List.getElem_mem hi)
    have hlv : vs.length = us.length := by rw [hv]; simp [shift]
    simp only [customhouseref07_Same.l0]
    rw [if_pos (by rw [List.length_map]; omega), if_pos (by omega), if_pos (by rw [List.length_map, hlv]; omega), rd_map us i _ hp, rd_map vs i _ hq]
    rw [if_neg (by
      simp only [toS]
      rw [wrap_id (by omega) (by omega)]
      simp)]
    rw [wrap_id (by omega) (by omega)]
    exact ih k (i + 1) (by omega) (by omega) (by omega)
theorem same_ok (us vs : List (Nat × Tk)) (d k : Nat) (hv : vs = shift d us) (hb : ∀ p ∈ us, p.1 + d ≤ 1000000) (hl : us.length ≤ 1000000) (hk : us.length < k) : customhouseref07_Same.f k (us.map toS) d (vs.map toS) = some true := by
  unfold customhouseref07_Same.f
  rw [if_pos (by rw [hv]; simp [shift])]
  exact same_true us vs d hv hb hl us.length k 0 (by omega) (by omega) hk

end Go.Proofs.YtalgccjkfanaoaaDoor.LxW
