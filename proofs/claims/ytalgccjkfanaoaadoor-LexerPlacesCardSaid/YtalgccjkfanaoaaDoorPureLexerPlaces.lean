/- LexerPlaces, the plain law: the tokens lie in the text one behind the other, with nothing but gaps between them. No conditions. -/
import Derived.Test.YtalgccjkfanaoaaDoorPL9
import Derived.Test.YtalgccjkfanaoaaDoorLexG
namespace Go.Proofs.YtalgccjkfanaoaaDoor.Pure
open Go.RowKit Go.Proofs.YtalgccjkfanaoaaDoor.PL Go.Proofs.YtalgccjkfanaoaaDoorW.PrintWords Go.Proofs.YtalgccjkfanaoaaDoorW.PrintLast
open Go.Proofs.YtalgccjkfanaoaaDoor.LxW Go.Proofs.YtalgccjkfanaoaaDoor.LxP
set_option linter.unusedVariables false
set_option linter.unusedSimpArgs false

theorem cut_eq {s : ByteArray} {pos a n : Nat} {w : List UInt8} (h1 : pos ≤ a) (h : (((byts s).drop pos).drop (a - pos)).take n = w) : s.extract a (a + n) = bs w := by
  rw [List.drop_drop, show pos + (a - pos) = a by omega] at h
  have e : byts (s.extract a (a + n)) = ((byts s).drop a).take (a + n - a) := byts_mid s a (a + n)
  rw [show a + n - a = n by omega, h] at e
  have e2 : byts (bs w) = w := rfl
  exact byts_inj (e.trans e2.symm)
theorem text_ne {w : List UInt8} (h : 0 < w.length) : ¬ (bs w).toList = [] := by
  rw [ByteArray.toList_eq]
  intro hc
  have : w = [] := hc
  rw [this] at h
  simp at h
theorem places {s : ByteArray} {ts : List (Nat × Tk)} (hs : s.size ≤ 3000) (hts : ts.length ≤ 3000) : ∀ (n k i pos : Nat), ts.length - i = n → i ≤ ts.length → pos ≤ s.size →
    LexAt pos ((byts s).drop pos) (ts.drop i) → 10000 + 2 * n + 2 ≤ k →
    customhouselaw07_LexerPlaces.l0 k s true (ts.map toS) 0 (pos : Int) (i : Int) = some true := by
  intro n
  induction n with
  | zero =>
    intro k i pos h1 h2 hp h h3
    obtain ⟨k, rfl⟩ : ∃ m, k = m + 1 := ⟨k - 1, by omega⟩
    rcases h.places with ⟨_, b, hb⟩ | ⟨p, us, r, hd, _⟩
    · rw [customhouselaw07_LexerPlaces.l0]
      try simp only
      rw [if_neg (by rw [List.length_map]; omega)]
      simp only [if_true, Int.toNat_natCast]
      rw [if_pos (by omega), if_pos (by omega)]
      rw [gaps_ok (b := b) (by rw [byts_drop]; exact hb) (by rw [ByteArray.size_extract]; omega) (by rw [ByteArray.size_extract]; omega)]
      rfl
    · have : (ts.drop i).length = 0 := by rw [List.length_drop]; omega
      rw [hd] at this
      simp at this
  | succ n ih =>
    intro k i pos h1 h2 hp h h3
    obtain ⟨k, rfl⟩ : ∃ m, k = m + 2 := ⟨k - 2, by omega⟩
    have hl : ((byts s).drop pos).length = s.size - pos := by rw [List.length_drop, byts_length]
    rcases h.places with ⟨hd, _⟩ | ⟨p, us, r, hd, q1, q2, q3, q4, q5, q6, q7, q8⟩
    · have : (ts.drop i).length = n + 1 := by rw [List.length_drop]; omega
      rw [hd] at this
      simp at this
    · have ht : ts[i]? = some p := by
        have : (ts.drop i)[0]? = some p := by rw [hd]; rfl
        rwa [List.getElem?_drop] at this
      have hus : ts.drop (i + 1) = us := by
        rw [← List.drop_drop, hd]
        rfl
      have hb := (lexAt_bounds h).1 p (by rw [hd]; exact List.mem_cons_self ..)
      rw [hl] at q4 hb
      obtain ⟨b1, b2, b3, b4, b5⟩ := hb
      subst q7
      rw [List.drop_drop, show pos + (p.1 + p.2.width - pos) = p.1 + p.2.width by omega] at q8
      have nx := ih k (i + 1) (p.1 + p.2.width) (by omega) (by omega) (by omega) (by rw [hus]; exact q8) (by omega)
      have hgap : st false (byts (s.extract pos p.1)) = some false := by rw [byts_mid]; exact q2
      have hx : s.extract p.1 (p.1 + p.2.width) = bs (LxP.written p.2) := cut_eq q1 q6
      have hne : ¬ (bs (LxP.written p.2)).toList = [] := text_ne (by omega)
      obtain ⟨T, hT, hT1⟩ : ∃ T : S30, toS p = T ∧ Aside0 (T.f1 = (p.1 : Int)) := ⟨_, rfl, ⟨rfl⟩⟩
      have c1 : (0 : Int) ≤ (i : Int) := by omega
      have c2 : (i : Int) < ((ts.map toS).length : Int) := by rw [List.length_map]; omega
      have c3 : (0 : Int) ≤ (p.1 : Int) := by omega
      have c4 : (p.1 : Int) ≤ ((p.1 + p.2.width : Nat) : Int) := by omega
      have c5 : ((p.1 + p.2.width : Nat) : Int) ≤ (s.size : Int) := by omega
      have c6 : (0 : Int) ≤ (pos : Int) := by omega
      have c7 : (pos : Int) ≤ (p.1 : Int) := by omega
      have c8 : (p.1 : Int) ≤ (s.size : Int) := by omega
      have c9 : ¬ (p.1 : Int) < (pos : Int) := by omega
      have c10 : decide (((p.1 + p.2.width : Nat) : Int) > (s.size : Int)) = false := decide_eq_false (by omega)
      have e1 := rd_map ts i p ht
      have e2 := width_ok p (by omega) b5
      have e3 := written_ok p (by omega)
      rw [hT] at e1 e2 e3
      clear hT
      have e4 : customhouseref07_Gaps.f k (s.extract pos p.1) = some true := gaps_ok hgap (by rw [ByteArray.size_extract]; omega) (by rw [ByteArray.size_extract]; omega)
      have W1 : Aside0 (wrap64 ((p.1 : Int) + (p.2.width : Int)) = ((p.1 + p.2.width : Nat) : Int)) := ⟨by rw [wrap_id (by omega) (by omega)]; rfl⟩
      have W2 : Aside0 (wrap64 ((i : Int) + 1) = ((i + 1 : Nat) : Int)) := ⟨by rw [wrap_id (by omega) (by omega)]; rfl⟩
      have w1 := W1.out
      have w2 := W2.out
      have step : customhouselaw07_LexerPlaces.j1 (k + 1) s true (ts.map toS) 0 (pos : Int) (i : Int) (p.1 : Int) false = some true := by
        rw [customhouselaw07_LexerPlaces.j1]
        rw [if_neg (by decide), if_pos c1, if_pos c2, e1, e2, e3]
        rw [Option.bind_some, w1, if_pos c3, if_pos c4, if_pos c5, Option.bind_some]
        rw [Int.toNat_natCast, Int.toNat_natCast, hx, if_pos (rfl : (bs (LxP.written p.2)).toList = (bs (LxP.written p.2)).toList), Option.bind_some, if_neg hne]
        rw [if_pos c6, if_pos c7, if_pos c8, Int.toNat_natCast, e4, Option.bind_some, if_pos (rfl : true = true), Option.bind_some, w1, w2]
        exact nx
      rw [customhouselaw07_LexerPlaces.l0]
      simp only [if_pos c1, if_pos c2, e1, e2, Option.bind_some]
      rw [hT1.out, if_neg c9, w1, c10]
      exact step

theorem LexerPlaces : customhouselaw07_LexerPlaces.Pure := by
  intro s hs
  obtain ⟨k, hk⟩ : ∃ k : Nat, 20000 ≤ k := ⟨20000, Nat.le_refl _⟩
  refine ⟨k, ?_⟩
  unfold customhouselaw07_LexerPlaces.f customhouselaw07_head.f
  simp only [Option.bind_some]
  by_cases h : (s.size : Int) > 3000
  · rw [if_pos h]
  · rw [if_neg h]
    rcases lexT_cases s (by omega) with ⟨ts, h1, h2⟩ | ⟨e, a, j, h1, h2, h3⟩
    · have hc := h1.count
      rw [byts_length] at hc
      simp only [lexer_Lex.f, h2, Option.bind_some, if_true]
      exact places (by omega) (by omega) ts.length k 0 0 (by omega) (by omega) (by omega) h1 (by omega)
    · obtain ⟨_, _, hc⟩ := h1.count
      rw [byts_length] at hc
      simp only [lexer_Lex.f, h3, Option.bind_some]
      rw [if_neg (by omega)]
      simp only [if_true, List.length_nil]
      rw [if_pos (by rfl), if_pos (by omega), decide_eq_true (by omega)]

end Go.Proofs.YtalgccjkfanaoaaDoor.Pure
