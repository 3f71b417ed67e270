/- LexerAgain, the plain law: what is written of the tokens has the same tokens again. No conditions. -/
import Derived.Test.YtalgccjkfanaoaaDoorPL7
import Derived.Test.YtalgccjkfanaoaaDoorLexS
namespace Go.Proofs.YtalgccjkfanaoaaDoor.Pure
open Go.RowKit Go.Proofs.YtalgccjkfanaoaaDoor.PL Go.Proofs.YtalgccjkfanaoaaDoorW.PrintWords Go.Proofs.YtalgccjkfanaoaaDoorW.PrintLast
open Go.Proofs.YtalgccjkfanaoaaDoor.LxW Go.Proofs.YtalgccjkfanaoaaDoor.LxP
set_option linter.unusedVariables false
set_option linter.unusedSimpArgs false

theorem LexerAgain : customhouselaw07_LexerAgain.Pure := by
  intro s hs
  obtain ⟨k, hk⟩ : ∃ k : Nat, 5000 ≤ k := ⟨5000, Nat.le_refl _⟩
  refine ⟨k, ?_⟩
  unfold customhouselaw07_LexerAgain.f customhouselaw07_head.f
  simp only [Option.bind_some]
  by_cases h : (s.size : Int) > 2000
  · rw [if_pos h]
  · rw [if_neg h]
    rcases lexT_cases s (by omega) with ⟨ts, h1, h2⟩ | ⟨e, a, j, h1, h2, h3⟩
    · obtain ⟨us, u1, u2, _⟩ := h1.again 0
      have hc := h1.count
      rw [byts_length] at hc
      obtain ⟨b1, b2⟩ := lexAt_bounds h1
      rw [byts_length] at b1 b2
      have hal : customhouselaw07_all.f k (ts.map toS) = some (bs (LxP.all ts)) :=
        all_ok ts (fun p hp => by have := b1 p hp; omega) (by omega) (by omega) ts.length k 0 (by omega) (by omega) (by omega)
      have e1 : lexT (bs (LxP.all ts)) = (us.map toS, 0, 0) := lexT_ok (by rw [byts_bs]; exact u1) (by rw [← byts_length, byts_bs]; omega)
      simp only [lexer_Lex.f, h2, Option.bind_some, if_true, hal, e1, alike_ok ts us k u2.symm (by omega) (by omega)]
    · simp only [lexer_Lex.f, h3, Option.bind_some]
      rw [if_neg (by omega)]

end Go.Proofs.YtalgccjkfanaoaaDoor.Pure
