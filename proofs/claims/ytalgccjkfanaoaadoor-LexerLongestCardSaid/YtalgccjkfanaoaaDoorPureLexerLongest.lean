/- LexerLongest, the plain law: two tokens that touch are never one token when written together. No conditions. -/
import Derived.Test.YtalgccjkfanaoaaDoorPL11
import Derived.Test.YtalgccjkfanaoaaDoorLexG
namespace Go.Proofs.YtalgccjkfanaoaaDoor.Pure
open Go.RowKit Go.Proofs.YtalgccjkfanaoaaDoor.PL Go.Proofs.YtalgccjkfanaoaaDoorW.PrintWords Go.Proofs.YtalgccjkfanaoaaDoorW.PrintLast
open Go.Proofs.YtalgccjkfanaoaaDoor.LxW Go.Proofs.YtalgccjkfanaoaaDoor.LxP
set_option linter.unusedVariables false
set_option linter.unusedSimpArgs false

theorem longest {l : List UInt8} {ts : List (Nat × Tk)} (h : LexAt 0 l ts) (hl : l.length ≤ 3000) : ∀ (n k i : Nat), 1 ≤ i → ts.length - i = n → 2 * n + 2 ≤ k →
    customhouselaw07_LexerLongest.l0 k true (ts.map toS) 0 (i : Int) = some true := by
  have hc := h.count
  have hb := (lexAt_bounds h).1
  intro n
  induction n with
  | zero =>
    intro k i h1 h2 h3
    obtain ⟨k, rfl⟩ : ∃ m, k = m + 2 := ⟨k - 2, by omega⟩
    conv => lhs; unfold customhouselaw07_LexerLongest.l0
    try simp only
    rw [if_neg (by rw [List.length_map]; omega)]
    conv => lhs; unfold customhouselaw07_LexerLongest.j1
    rfl
  | succ n ih =>
    intro k i h1 h2 h3
    obtain ⟨k, rfl⟩ : ∃ m, k = m + 2 := ⟨k - 2, by omega⟩
    have hi : i < ts.length := by omega
    have nx := ih k (i + 1) (by omega) (by omega) (by omega)
    have w1 : wrap64 ((i : Int) - 1) = ((i - 1 : Nat) : Int) := by rw [wrap_id (by omega) (by omega)]; omega
    have w2 : wrap64 ((i : Int) + 1) = ((i + 1 : Nat) : Int) := by rw [wrap_id (by omega) (by omega)]; rfl
    have hp : ts[i - 1]? = some ts[i - 1] := List.getElem?_eq_getElem (by omega)
    have hq : ts[i]? = some ts[i] := List.getElem?_eq_getElem hi
    have mp := hb ts[i - 1] (List.getElem_mem _)
    have mq := hb ts[i] (List.getElem_mem _)
    have key := h.pair (i - 1) ts[i - 1] ts[i] hp (by rw [show i - 1 + 1 = i by omega]; exact hq)
    generalize ts[i - 1] = p at hp mp key
    generalize ts[i] = q at hq mq key
    conv => lhs; unfold customhouselaw07_LexerLongest.l0
    try simp only
    rw [if_pos (by rw [List.length_map]; omega)]
    conv => lhs; unfold customhouselaw07_LexerLongest.j1
    simp only [w1, w2, rd_map ts _ p hp, rd_map ts _ q hq, width_ok p (by omega) mp.2.2.2.2, written_ok p (by omega), written_ok q (by omega), Option.bind_some, nx, lexer_Lex.f]
    rw [if_pos (by decide), if_pos (by omega), if_pos (by rw [List.length_map]; omega), if_pos (by omega), if_pos (by rw [List.length_map]; omega)]
    by_cases ht : wrap64 ((toS p).f1 + (p.2.width : Int)) = (toS q).f1
    · rw [if_pos ht]
      have ht' : p.1 + p.2.width = q.1 := by
        simp only [toS] at ht
        rw [wrap_id (by omega) (by omega)] at ht
        omega
      obtain ⟨us, u1, u2⟩ := key ht'
      have s1 : (bs (LxP.written p.2)).size = (LxP.written p.2).length := by rw [← byts_length, byts_bs]
      have s2 : (bs (LxP.written q.2)).size = (LxP.written q.2).length := by rw [← byts_length, byts_bs]
      have e1 : lexT (bs (LxP.written p.2) ++ bs (LxP.written q.2)) = (us.map toS, 0, 0) := lexT_ok (by rw [byts_append, byts_bs, byts_bs]; exact u1) (by rw [ByteArray.size_append]; omega)
      rw [if_pos (by omega), e1]
      simp only [if_true, List.length_map, u2]
      rfl
    · rw [if_neg ht]

theorem LexerLongest : customhouselaw07_LexerLongest.Pure := by
  intro s hs
  obtain ⟨k, hk⟩ : ∃ k : Nat, 8000 ≤ k := ⟨8000, Nat.le_refl _⟩
  refine ⟨k + 2, ?_⟩
  unfold customhouselaw07_LexerLongest.f customhouselaw07_head.f
  simp only [Option.bind_some]
  by_cases h : (s.size : Int) > 3000
  · rw [if_pos h]
  · rw [if_neg h]
    rcases lexT_cases s (by omega) with ⟨ts, h1, h2⟩ | ⟨e, a, j, h1, h2, h3⟩
    · have hc := h1.count
      rw [byts_length] at hc
      simp only [lexer_Lex.f, h2, Option.bind_some]
      exact longest h1 (by rw [byts_length]; omega) (ts.length - 1) (k + 2) 1 (by omega) rfl (by omega)
    · simp only [lexer_Lex.f, h3, Option.bind_some]
      conv => lhs; unfold customhouselaw07_LexerLongest.l0
      try simp only
      rw [if_neg (by simp)]
      conv => lhs; unfold customhouselaw07_LexerLongest.j1
      rfl

end Go.Proofs.YtalgccjkfanaoaaDoor.Pure
