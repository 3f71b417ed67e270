/- LexerParts, the plain law: of two texts with a line feed between them: first the tokens of the one, then those of the other; a line feed after the first error changes nothing. No conditions. -/
import Derived.Test.YtalgccjkfanaoaaDoorPL4
import Derived.Test.YtalgccjkfanaoaaDoorLexSame
namespace Go.Proofs.YtalgccjkfanaoaaDoor.Pure
open Go.RowKit Go.Proofs.YtalgccjkfanaoaaDoor.PL Go.Proofs.YtalgccjkfanaoaaDoorW.PrintWords Go.Proofs.YtalgccjkfanaoaaDoorW.PrintLast
open Go.Proofs.YtalgccjkfanaoaaDoor.LxW Go.Proofs.YtalgccjkfanaoaaDoor.LxP
set_option linter.unusedVariables false
set_option linter.unusedSimpArgs false

theorem LexerParts : customhouselaw07_LexerParts.Pure := by
  intro s t hs ht
  obtain ⟨k, hk⟩ : ∃ k : Nat, 5000 ≤ k := ⟨5000, Nat.le_refl _⟩
  refine ⟨k + 1, ?_⟩
  unfold customhouselaw07_LexerParts.f customhouselaw07_head.f
  simp only [Option.bind_some]
  by_cases h : (s.size : Int) > 1500
  · rw [if_pos h]; simp only [customhouselaw07_LexerParts.j0, if_true]
  · rw [if_neg h]
    by_cases h' : (t.size : Int) > 1500
    · rw [decide_eq_true h']; simp only [customhouselaw07_LexerParts.j0, if_true]
    · rw [decide_eq_false h']
      simp only [customhouselaw07_LexerParts.j0, lexer_Lex.f, Option.bind_some]
      rw [if_neg (by decide)]
      have hw : byts ((s ++ (⟨#[10]⟩ : ByteArray)) ++ t) = byts s ++ 10 :: byts t := by
        rw [byts_append, byts_append, show byts (⟨#[10]⟩ : ByteArray) = [10] from rfl, List.append_assoc]
        rfl
      have hz : (s ++ (⟨#[10]⟩ : ByteArray)).size = s.size + 1 := by rw [ByteArray.size_append]; rfl
      have hz2 : ((s ++ (⟨#[10]⟩ : ByteArray)) ++ t).size = s.size + 1 + t.size := by rw [ByteArray.size_append, hz]
      rw [if_pos (by omega), if_pos (by omega)]
      have hl : (byts s).length = s.size := byts_length s
      have sh : ∀ us, LexAt 0 (byts t) us → LexAt (0 + (byts s).length + 1) (byts t) (shift (s.size + 1) us) := by
        intro us hu
        have := hu.shift (d := s.size + 1)
        rw [hl, show 0 + s.size + 1 = 0 + (s.size + 1) by omega]
        exact this
      have sh' : ∀ e a j, LexErr 0 (byts t) e a j → LexErr (0 + (byts s).length + 1) (byts t) e (a + (s.size + 1)) j := by
        intro e a j hu
        have := hu.shift (d := s.size + 1)
        rw [hl, show 0 + s.size + 1 = 0 + (s.size + 1) by omega]
        exact this
      rcases lexT_cases s (by omega) with ⟨ts, h1, h2⟩ | ⟨e, a, j, h1, h2, h3⟩
      · rcases lexT_cases t (by omega) with ⟨us, g1, g2⟩ | ⟨e, a, j, g1, g2, g3⟩
        · have all : lexT ((s ++ (⟨#[10]⟩ : ByteArray)) ++ t) = ((ts ++ shift (s.size + 1) us).map toS, 0, 0) := lexT_ok (by rw [hw]; exact h1.then_ (sh us g1)) (by omega)
          have c1 := h1.count
          have c2 := g1.count
          rw [byts_length] at c1 c2
          have b1 := (lexAt_bounds h1).1
          have b2 := (lexAt_bounds g1).1
          rw [byts_length] at b1 b2
          have e1 : customhouseref07_Same.f k (ts.map toS) 0 (ts.map toS) = some true := same_ok ts ts 0 k (by simp [shift]) (fun p hp => by have := b1 p hp; omega) (by omega) (by omega)
          have e2 : customhouseref07_Same.f k (us.map toS) (wrap64 ((s.size : Int) + 1)) ((shift (s.size + 1) us).map toS) = some true := by
            rw [wrap_id (by omega) (by omega)]
            exact same_ok us (shift (s.size + 1) us) (s.size + 1) k rfl (fun p hp => by have := b2 p hp; omega) (by omega) (by omega)
          have hm : (ts ++ shift (s.size + 1) us).map toS = ts.map toS ++ (shift (s.size + 1) us).map toS := List.map_append
          have hlu : (shift (s.size + 1) us).length = us.length := by simp [shift]
          have e3 : ((ts ++ shift (s.size + 1) us).map toS).take ((((ts.map toS).length : Int)) : Int).toNat = ts.map toS := by
            rw [hm, Int.toNat_natCast, List.take_left']
            rfl
          have e4 : ((ts ++ shift (s.size + 1) us).map toS).drop ((((ts.map toS).length : Int)) : Int).toNat = (shift (s.size + 1) us).map toS := by
            rw [hm, Int.toNat_natCast, List.drop_left']
            rfl
          simp only [h2, g2, all, if_true, e3, e4, e1, e2, Option.bind_some]
          have hlen : ((ts ++ shift (s.size + 1) us).map toS).length = ts.length + us.length := by rw [List.length_map, List.length_append, hlu]
          rw [hlen, List.length_map, List.length_map, wrap_id (by omega) (by omega), if_pos (by omega), if_pos (by omega), if_pos (by omega)]
        · have all : lexT ((s ++ (⟨#[10]⟩ : ByteArray)) ++ t) = ([], (e : Int), ((a + (s.size + 1) : Nat) : Int)) := lexT_bad (by rw [hw]; exact h1.bad (sh' _ _ _ g1)) (by omega)
          obtain ⟨_, c1, c2⟩ := g1.count
          rw [byts_length] at c2
          simp only [h2, g3, all, if_true]
          rw [if_neg (by omega), wrap_id (x := (a : Int) + (s.size : Int)) (by omega) (by omega), wrap_id (by omega) (by omega)]
          congr 1
          rw [beq_iff_eq]
          omega
      · have all : lexT ((s ++ (⟨#[10]⟩ : ByteArray)) ++ t) = ([], (e : Int), (a : Int)) := lexT_bad (by rw [hw]; exact h1.then_ _) (by omega)
        simp only [h3, all, if_true]
        rw [if_neg (by omega)]
        congr 1
        rw [bne_iff_ne]
        omega

end Go.Proofs.YtalgccjkfanaoaaDoor.Pure
