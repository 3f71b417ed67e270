/- LexerBeginnings, the plain law: the text before an error has none, and the text from there on has the same error at 0. No conditions. -/
import Derived.Test.YtalgccjkfanaoaaDoorPL2
import Derived.Test.YtalgccjkfanaoaaDoorLexL
namespace Go.Proofs.YtalgccjkfanaoaaDoor.Pure
open Go.RowKit Go.Proofs.YtalgccjkfanaoaaDoor.PL Go.Proofs.YtalgccjkfanaoaaDoorW.PrintWords Go.Proofs.YtalgccjkfanaoaaDoorW.PrintLast
open Go.Proofs.YtalgccjkfanaoaaDoor.LxW Go.Proofs.YtalgccjkfanaoaaDoor.LxP

theorem LexerBeginnings : customhouselaw07_LexerBeginnings.Pure := by
  intro s hs
  refine ⟨1, ?_⟩
  unfold customhouselaw07_LexerBeginnings.f customhouselaw07_head.f
  simp only [Option.bind_some]
  by_cases h : (s.size : Int) > 3000
  · rw [if_pos h]
  · rw [if_neg h]
    rcases lexT_cases s (by omega) with ⟨ts, h1, h2⟩ | ⟨e, a, j, h1, h2, h3⟩
    · simp only [lexer_Lex.f, h2, Option.bind_some, if_true]
      rfl
    · obtain ⟨⟨ts, hb⟩, hd⟩ := h1.before
      obtain ⟨_, _, hc⟩ := h1.count
      rw [byts_length] at hc
      simp only [lexer_Lex.f, h3, Option.bind_some]
      rw [if_neg (by omega), if_neg (by omega), decide_eq_false (by omega)]
      have e1 : lexT (s.extract 0 a) = (ts.map toS, 0, 0) := lexT_ok (by rw [byts_take]; exact hb) (by rw [ByteArray.size_extract]; omega)
      have e2 : lexT (s.extract a s.size) = ([], (e : Int), ((0 : Nat) : Int)) := lexT_bad (lexErr_zero (by rw [byts_drop]; exact hd)) (by rw [ByteArray.size_extract]; omega)
      simp only [customhouselaw07_LexerBeginnings.j0]
      rw [if_neg (by decide), if_pos (by omega), if_pos (by omega)]
      simp only [lexer_Lex.f, Int.toNat_natCast, e1, e2, Option.bind_some, if_true]
      rfl

end Go.Proofs.YtalgccjkfanaoaaDoor.Pure
