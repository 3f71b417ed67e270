/- What lexer.Lex tells, by the plain lexer: tokens one after the other, or an error. -/
import Derived.Test.YtalgccjkfanaoaaDoorLexC
import Derived.Test.YtalgccjkfanaoaaDoorLexH
namespace Go.Proofs.YtalgccjkfanaoaaDoor.LxW
open Go.RowKit Go.Proofs.YtalgccjkfanaoaaDoorW.PrintWords Go.Proofs.YtalgccjkfanaoaaDoorW.PrintLast Go.Proofs.YtalgccjkfanaoaaDoorW.PrintMore
open Go.Proofs.YtalgccjkfanaoaaDoor Go.Proofs.YtalgccjkfanaoaaDoor.LxP
set_option linter.unusedVariables false
set_option linter.unusedSimpArgs false

def byts (s : ByteArray) : List UInt8 := s.data.toList
theorem byts_length (s : ByteArray) : (byts s).length = s.size := data_length s
theorem byts_append (s t : ByteArray) : byts (s ++ t) = byts s ++ byts t := by
  simp [byts, ByteArray.data_append]
theorem byts_bs (l : List UInt8) : byts (bs l) = l := rfl
theorem byts_take (s : ByteArray) (n : Nat) : byts (s.extract 0 n) = (byts s).take n := by
  unfold byts
  rw [Lib.extract_data]
  simp
theorem byts_drop (s : ByteArray) (n : Nat) : byts (s.extract n s.size) = (byts s).drop n := Lib.extract_to_end s n
theorem byts_mid (s : ByteArray) (n m : Nat) : byts (s.extract n m) = ((byts s).drop n).take (m - n) := Lib.extract_data s n m
theorem byts_inj {s t : ByteArray} (h : byts s = byts t) : s = t := by
  cases s with | mk a =>
  cases t with | mk b =>
  have : a.toList = b.toList := h
  rw [Array.toList_inj.1 this]
theorem bs_byts (s : ByteArray) : bs (byts s) = s := byts_inj (byts_bs _)

theorem lexErr_two {off : Nat} {l : List UInt8} {e at' j : Nat} (h : LexErr off l e at' j) : 2 ≤ e := by
  induction h with
  | here off g c r e hg h1 h2 he => exact (tok_error he).1
  | more off g w r t e a' j hg hw h ih => exact ih
theorem lexErr_zero {o : Nat} {l : List UInt8} {e : Nat} (h : LexErr o l e o 0) : LexErr 0 l e 0 0 := by
  generalize ha : o = a' at h
  generalize hj : 0 = j at h
  have key : ∀ {off : Nat} {l : List UInt8} {e at' j : Nat}, LexErr off l e at' j → at' = off → j = 0 → LexErr 0 l e 0 0 := by
    intro off l e at' j h h1 h2
    cases h with
    | here _ g c r _ hg i1 i2 he =>
      obtain rfl : g = [] := List.eq_nil_of_length_eq_zero (by omega)
      have := LexErr.here 0 [] c r e rfl i1 i2 he
      simpa using this
    | more => omega
  subst hj
  exact key h rfl rfl

theorem lexT_ok {s : ByteArray} {ts : List (Nat × Tk)} (h : LexAt 0 (byts s) ts) (hs : s.size ≤ 5000) : lexT s = (ts.map toS, 0, 0) := by
  unfold lexT
  have e : lex s.data.toList = .ok ts := lex_ok h (by rw [data_length]; exact hs)
  rw [if_neg (by omega), e]
theorem lexT_bad {s : ByteArray} {e at' j : Nat} (h : LexErr 0 (byts s) e at' j) (hs : s.size ≤ 5000) : lexT s = ([], (e : Int), (at' : Int)) := by
  unfold lexT
  have e : lex s.data.toList = .error (e, at') := lex_bad h (by rw [data_length]; exact hs)
  rw [if_neg (by omega), e]
theorem lexT_cases (s : ByteArray) (hs : s.size ≤ 5000) : (∃ ts, LexAt 0 (byts s) ts ∧ lexT s = (ts.map toS, 0, 0)) ∨ ∃ e at' j, LexErr 0 (byts s) e at' j ∧ 2 ≤ e ∧ lexT s = ([], (e : Int), (at' : Int)) := by
  rcases lex_small (byts s) (by rw [byts_length]; exact hs) with ⟨ts, h, _⟩ | ⟨e, a, j, h, _⟩
  · exact .inl ⟨ts, h, lexT_ok h hs⟩
  · exact .inr ⟨e, a, j, h, lexErr_two h, lexT_bad h hs⟩
end Go.Proofs.YtalgccjkfanaoaaDoor.LxW
