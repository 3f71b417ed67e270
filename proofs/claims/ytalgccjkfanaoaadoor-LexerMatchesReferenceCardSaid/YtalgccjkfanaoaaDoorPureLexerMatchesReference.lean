/- LexerMatchesReference, the plain law: the reference's lexer answers as the plain lexer does, as the program does. No conditions. -/
import Derived.Test.YtalgccjkfanaoaaDoorPL18
import Derived.Test.YtalgccjkfanaoaaDoorLexRR
import Derived.Test.YtalgccjkfanaoaaDoorLexSame
namespace Go.Proofs.YtalgccjkfanaoaaDoor.Pure
open Go.RowKit Go.Proofs.YtalgccjkfanaoaaDoor.PL Go.Proofs.YtalgccjkfanaoaaDoorW.PrintWords Go.Proofs.YtalgccjkfanaoaaDoorW.PrintLast
open Go.Proofs.YtalgccjkfanaoaaDoor.LxW Go.Proofs.YtalgccjkfanaoaaDoor.LxP
set_option linter.unusedVariables false
set_option linter.unusedSimpArgs false

theorem LexerMatchesReference : customhouselaw07_LexerMatchesReference.Pure := by
  intro s hs
  obtain ⟨k, hk⟩ : ∃ k : Nat, 200000 ≤ k := ⟨200000, Nat.le_refl _⟩
  refine ⟨k, ?_⟩
  unfold customhouselaw07_LexerMatchesReference.f customhouselaw07_head.f
  simp only [Option.bind_some]
  by_cases h : (s.size : Int) > 21000
  · rw [if_pos h]
  · rw [if_neg h, lex_ref s k hk]
    obtain ⟨ts, h1, h2, h3⟩ := lexT_list s (by omega)
    simp only [lexer_Lex.f, Option.bind_some, if_true]
    rw [h1]
    have e := same_ok ts ts 0 k (by simp [shift]) (fun p hp => by have := h3 p hp; omega) (by omega) (by omega)
    have e' : customhouseref07_Same.f k (ts.map toS) 0 (ts.map toS) = some true := e
    rw [e', Option.bind_some]

end Go.Proofs.YtalgccjkfanaoaaDoor.Pure
