/- LexerGaps, the plain law: gaps put ahead, behind a token and at the end change nothing but offsets. No conditions. -/
import Derived.Test.YtalgccjkfanaoaaDoorPL10
import Derived.Test.YtalgccjkfanaoaaDoorLexG
namespace Go.Proofs.YtalgccjkfanaoaaDoor.Pure
open Go.RowKit Go.Proofs.YtalgccjkfanaoaaDoor.PL Go.Proofs.YtalgccjkfanaoaaDoorW.PrintWords Go.Proofs.YtalgccjkfanaoaaDoorW.PrintLast
open Go.Proofs.YtalgccjkfanaoaaDoor.LxW Go.Proofs.YtalgccjkfanaoaaDoor.LxP
set_option linter.unusedVariables false
set_option linter.unusedSimpArgs false

theorem gapsJ2 (s g : ByteArray) (ts : List (Nat × Tk)) (x k : Nat) (hs : s.size ≤ 1500) (hg : g.size ≤ 300) (hx : x ≤ s.size) (b : Bool) (hb : LxP.st false (byts g) = some b) (hl : ts.length ≤ 3000)
    (h : ∃ us, LexAt (0 + g.size + 1) ((byts s).take x ++ (byts g ++ 10 :: (byts s).drop x)) us ∧ us.map (·.2) = ts.map (·.2)) (hk : 3000 < k) :
    customhouselaw07_LexerGaps.j2 (k + 1) s g true (ts.map toS) (x : Int) false = some true := by
  obtain ⟨us, u1, u2⟩ := h
  have hgl : (byts g).length = g.size := byts_length g
  have ul : us.length = ts.length := by have := congrArg List.length u2; simpa using this
  have e1 : LexAt 0 (byts g ++ 10 :: ((byts s).take x ++ (byts g ++ 10 :: (byts s).drop x))) us := LexAt.ahead hb (by rw [hgl]; exact u1)
  have e2 : LexAt 0 ((byts g ++ 10 :: ((byts s).take x ++ (byts g ++ 10 :: (byts s).drop x))) ++ 10 :: byts g) (us ++ []) := e1.then_ (.done _ _ b hb)
  rw [List.append_nil] at e2
  have z1 : (g ++ (⟨#[10]⟩ : ByteArray)).size = g.size + 1 := by rw [ByteArray.size_append]; rfl
  have z2 : (s.extract 0 x).size = x := by rw [ByteArray.size_extract]; omega
  have z3 : (s.extract x s.size).size = s.size - x := by rw [ByteArray.size_extract]; omega
  have n10 : byts (⟨#[10]⟩ : ByteArray) = [10] := rfl
  have hb2 : byts ((((((g ++ (⟨#[10]⟩ : ByteArray)) ++ (s.extract 0 x)) ++ (g ++ (⟨#[10]⟩ : ByteArray))) ++ (s.extract x s.size)) ++ (⟨#[10]⟩ : ByteArray)) ++ g) = (byts g ++ 10 :: ((byts s).take x ++ (byts g ++ 10 :: (byts s).drop x))) ++ 10 :: byts g := by
    simp only [byts_append, byts_take, byts_drop, n10, List.append_assoc, List.singleton_append, List.cons_append, List.nil_append]
  have hsz : ((((((g ++ (⟨#[10]⟩ : ByteArray)) ++ (s.extract 0 x)) ++ (g ++ (⟨#[10]⟩ : ByteArray))) ++ (s.extract x s.size)) ++ (⟨#[10]⟩ : ByteArray)) ++ g).size ≤ 5000 := by
    simp only [ByteArray.size_append, z2, z3, show (⟨#[10]⟩ : ByteArray).size = 1 from rfl]
    omega
  have e3 := lexT_ok (by rw [hb2]; exact e2) hsz
  rw [customhouselaw07_LexerGaps.j2]
  simp only [Int.toNat_natCast, lexer_Lex.f, e3, Option.bind_some, alike_ok ts us k u2.symm (by omega) (by omega)]
  simp only [ByteArray.size_append, z2, z3, show (⟨#[10]⟩ : ByteArray).size = 1 from rfl]
  rw [if_neg (by decide), if_pos (by omega), if_pos (by omega), if_pos (by omega), if_pos (by omega), if_pos (by omega), if_pos (by omega), if_pos (by omega), if_pos (by omega)]
  simp only [if_true]

theorem gapsJ1 (s g : ByteArray) (ts : List (Nat × Tk)) (x k : Nat) (hs : s.size ≤ 1500) (hg : g.size ≤ 300) (hx : x ≤ s.size) (b : Bool) (hb : LxP.st false (byts g) = some b) (hl : ts.length ≤ 3000)
    (h : ∃ us, LexAt (0 + g.size + 1) ((byts s).take x ++ (byts g ++ 10 :: (byts s).drop x)) us ∧ us.map (·.2) = ts.map (·.2)) (hk : 3000 < k) :
    customhouselaw07_LexerGaps.j1 (k + 2) s g true (ts.map toS) (x : Int) = some true := by
  rw [customhouselaw07_LexerGaps.j1]
  rw [if_neg (by omega), decide_eq_false (by omega)]
  exact gapsJ2 s g ts x k hs hg hx b hb hl h hk

theorem LexerGaps : customhouselaw07_LexerGaps.Pure := by
  intro s g a hs hg ha
  have ha' : 0 ≤ a ∧ a ≤ 65535 := by
    have q : 0 ≤ a ∧ a ≤ 65535 := by
      simp only [Lit.wf, Bool.and_eq_true, decide_eq_true_eq] at ha
      have e1 : IntKind.min .u16 = 0 := by decide
      have e2 : IntKind.max .u16 = 65535 := by decide
      rw [e1, e2] at ha
      exact ha
    exact q
  obtain ⟨k, hk⟩ : ∃ k : Nat, 5000 ≤ k := ⟨5000, Nat.le_refl _⟩
  refine ⟨k + 3, ?_⟩
  unfold customhouselaw07_LexerGaps.f customhouselaw07_head.f
  simp only [Option.bind_some]
  by_cases h : (s.size : Int) > 1500
  · rw [if_pos h]
    rw [customhouselaw07_LexerGaps.j0]
    exact if_pos rfl
  · rw [if_neg h]
    by_cases h' : (g.size : Int) > 300
    · rw [if_pos h']
      rw [customhouselaw07_LexerGaps.j0]
      exact if_pos rfl
    · rw [if_neg h', gaps_eq g (k + 3) (by omega) (by omega)]
      simp only [Option.bind_some]
      by_cases hgap : gapS false (byts g) = []
      · rw [decide_eq_true hgap]
        obtain ⟨b, hb⟩ := gaps_inv hgap
        rw [customhouselaw07_LexerGaps.j0, if_neg (by decide)]
        rcases lexT_cases s (by omega) with ⟨ts, h1, h2⟩ | ⟨e, a, j, h1, h2, h3⟩
        · have hc := h1.count
          rw [byts_length] at hc
          have hbd := (lexAt_bounds h1).1
          rw [byts_length] at hbd
          simp only [lexer_Lex.f, h2, Option.bind_some, List.length_map, if_true]
          by_cases hn : (ts.length : Int) > 0
          · have wa : wrap64 a = a := wrap_id (by omega) (by omega)
            obtain ⟨i, hi, hi2⟩ : ∃ i : Nat, Int.tmod (wrap64 a) (ts.length : Int) = (i : Int) ∧ i < ts.length := by
              refine ⟨(a.toNat % ts.length), ?_, Nat.mod_lt _ (by omega)⟩
              rw [wa, Int.tmod_eq_emod_of_nonneg ha'.1]
              have : a = (a.toNat : Int) := by omega
              rw [this, Int.toNat_natCast]
              rfl
            have hp : ts[i]? = some ts[i] := List.getElem?_eq_getElem hi2
            have hm := hbd ts[i] (List.getElem_mem hi2)
            have hin := h1.inside hb i ts[i] hp (0 + g.size + 1)
            generalize ts[i] = p at hp hm hin
            obtain ⟨T, hT, hT1⟩ : ∃ T : S30, toS p = T ∧ Aside0 (T.f1 = (p.1 : Int)) := ⟨_, rfl, ⟨rfl⟩⟩
            have e1 := rd_map ts i p hp
            have e2 := width_ok p (by clear hi wa; omega) hm.2.2.2.2
            rw [hT] at e1 e2
            clear hT
            have hn0 : ¬ (ts.length : Int) = 0 := by clear hi wa; omega
            rw [if_pos hn, if_neg hn0, hi]
            clear hi wa
            rw [e1, e2]
            simp only [Option.bind_some]
            rw [hT1.out]
            obtain ⟨_, _, q3, us, u1, u2⟩ := hin
            rw [byts_length] at q3
            rw [if_pos (by omega), if_pos (by omega), wrap_id (by omega) (by omega)]
            refine gapsJ1 s g ts (p.1 + p.2.width) k (by omega) (by omega) (by omega) b hb (by omega) ⟨us, ?_, u2⟩ (by omega)
            simpa using u1
          · rw [if_neg hn]
            have hz : ts = [] := List.eq_nil_of_length_eq_zero (by omega)
            obtain ⟨us, u1, u2⟩ := h1.rebase (0 + g.size + 1 + (byts g).length + 1)
            exact gapsJ1 s g ts 0 k (by omega) (by omega) (by omega) b hb (by omega) ⟨us, LexAt.ahead hb u1, u2⟩ (by omega)
        · simp only [lexer_Lex.f, h3, Option.bind_some]
          rw [if_neg (by omega)]
      · rw [decide_eq_false hgap]
        rw [customhouselaw07_LexerGaps.j0]
        exact if_pos rfl

end Go.Proofs.YtalgccjkfanaoaaDoor.Pure
