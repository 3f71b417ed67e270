/- The comparisons of lists of tokens, and what is written of them: as plain lists. -/
import Derived.Test.YtalgccjkfanaoaaDoorLexL
import Derived.Test.YtalgccjkfanaoaaDoorPL7
namespace Go.Proofs.YtalgccjkfanaoaaDoor.LxW
open Go.RowKit Go.Proofs.YtalgccjkfanaoaaDoorW.PrintWords Go.Proofs.YtalgccjkfanaoaaDoorW.PrintLast Go.Proofs.YtalgccjkfanaoaaDoorW.PrintMore
open Go.Proofs.YtalgccjkfanaoaaDoor Go.Proofs.YtalgccjkfanaoaaDoor.LxP Go.Proofs.YtalgccjkfanaoaaDoor.PL
set_option linter.unusedVariables false
set_option linter.unusedSimpArgs false

theorem wrap_id {x : Int} (h1 : -9223372036854775808 ≤ x) (h2 : x ≤ 9223372036854775807) : wrap64 x = x := by
  unfold wrap64
  omega
theorem rd_map (ts : List (Nat × Tk)) (i : Nat) (p : Nat × Tk) (h : ts[i]? = some p) : rd_T30 (ts.map toS) (i : Int) = toS p := by
  unfold rd_T30
  rw [Int.toNat_natCast, List.getD_eq_getElem?_getD, List.getElem?_map, h]
  rfl
/-- Alike: equal apart from offsets. -/
theorem alike_true (us vs : List (Nat × Tk)) (hv : us.map (·.2) = vs.map (·.2)) (hl : us.length ≤ 1000000) : ∀ (n k i : Nat), i ≤ us.length → us.length - i = n → n < k → customhouseref07_Alike.l0 k (us.map toS) (vs.map toS) i = some true := by
  have hlv : vs.length = us.length := by have := congrArg List.length hv; simpa using this.symm
  intro n
  induction n with
  | zero =>
    intro k i h1 h2 h3
    obtain ⟨k, rfl⟩ : ∃ m, k = m + 1 := ⟨k - 1, by omega⟩
    simp only [customhouseref07_Alike.l0]
    rw [if_neg (by rw [List.length_map]; omega)]
  | succ n ih =>
    intro k i h1 h2 h3
    obtain ⟨k, rfl⟩ : ∃ m, k = m + 1 := ⟨k - 1, by omega⟩
    have hi : i < us.length := by omega
    have hp : us[i]? = some us[i] := List.getElem?_eq_getElem hi
    have hq : vs[i]? = some vs[i] := List.getElem?_eq_getElem (by omega)
    have he : us[i].2 = vs[i].2 := by
      have := congrArg (fun l => l[i]?) hv
      simp only [List.getElem?_map, hp, hq, Option.map_some, Option.some.injEq] at this
      exact this
    simp only [customhouseref07_Alike.l0]
    rw [if_pos (by rw [List.length_map]; omega), if_pos (by omega), if_pos (by rw [List.length_map, hlv]; omega), rd_map us i _ hp, rd_map vs i _ hq]
    rw [if_pos (show (toS us[i]).f0 = (toS vs[i]).f0 by simp only [toS, he]), if_pos (show (toS us[i]).f3.toList = (toS vs[i]).f3.toList by simp only [toS, he]), if_pos (show (toS us[i]).f2 = (toS vs[i]).f2 by simp only [toS, he]), wrap_id (by omega) (by omega)]
    exact ih k (i + 1) (by omega) (by omega) (by omega)
theorem alike_ok (us vs : List (Nat × Tk)) (k : Nat) (hv : us.map (·.2) = vs.map (·.2)) (hl : us.length ≤ 1000000) (hk : us.length < k) : customhouseref07_Alike.f k (us.map toS) (vs.map toS) = some true := by
  unfold customhouseref07_Alike.f
  have hlv : vs.length = us.length := by have := congrArg List.length hv; simpa using this.symm
  rw [if_pos (by rw [List.length_map, List.length_map, hlv])]
  exact alike_true us vs hv hl us.length k 0 (by omega) (by omega) hk

/-- What is written of a token. -/
theorem written_ok (p : Nat × Tk) (hb : p.2.text.length ≤ 1000000) : customhouselaw07_written.f (toS p).f0 (toS p).f1 (toS p).f2 (toS p).f3 = some (bs (LxP.written p.2)) := by
  have hsz : (bs p.2.text).size = p.2.text.length := by rw [← byts_length, byts_bs]
  show customhouselaw07_written.f (p.2.kind : Int) (p.1 : Int) (p.2.n : Int) (bs p.2.text) = _
  unfold customhouselaw07_written.f
  by_cases h : p.2.kind = 3
  · rw [if_pos (by omega), if_pos (by omega), if_pos (by
      rw [← byts_length, byts_append]
      simp only [List.length_append, byts_bs]
      have : (byts (⟨#[34]⟩ : ByteArray)).length = 1 := rfl
      omega)]
    congr 1
    apply byts_inj
    rw [byts_append, byts_append, byts_bs, byts_bs]
    unfold LxP.written
    rw [if_pos h]
    rfl
  · rw [if_neg (by omega)]
    unfold LxP.written
    rw [if_neg h]
theorem all_append (ts us : List (Nat × Tk)) : LxP.all (ts ++ us) = LxP.all ts ++ LxP.all us := by
  induction ts with
  | nil => rfl
  | cons p ts ih => simp [LxP.all, ih]
theorem all_ok (ts : List (Nat × Tk)) (hb : ∀ p ∈ ts, p.2.text.length ≤ 1000000) (hl : ts.length ≤ 1000000) (hal : (LxP.all ts).length ≤ 1000000) : ∀ (n k i : Nat), i ≤ ts.length → ts.length - i = n → n < k → customhouselaw07_all.l0 k (ts.map toS) (bs (LxP.all (ts.take i))) i = some (bs (LxP.all ts)) := by
  intro n
  induction n with
  | zero =>
    intro k i h1 h2 h3
    obtain ⟨k, rfl⟩ : ∃ m, k = m + 1 := ⟨k - 1, by omega⟩
    simp only [customhouselaw07_all.l0]
    rw [if_neg (by rw [List.length_map]; omega), List.take_of_length_le (by omega)]
  | succ n ih =>
    intro k i h1 h2 h3
    obtain ⟨k, rfl⟩ : ∃ m, k = m + 1 := ⟨k - 1, by omega⟩
    have hi : i < ts.length := by omega
    have hp : ts[i]? = some ts[i] := List.getElem?_eq_getElem hi
    have hm := hb ts[i] (List.getElem_mem hi)
    have ht : LxP.all (ts.take (i + 1)) = LxP.all (ts.take i) ++ (LxP.written ts[i].2 ++ [32]) := by
      rw [List.take_succ_eq_append_getElem hi, all_append]
      simp [LxP.all]
    have hle : (LxP.all (ts.take (i + 1))).length ≤ (LxP.all ts).length := by
      conv => rhs; rw [← List.take_append_drop (i + 1) ts, all_append]
      rw [List.length_append]
      omega
    rw [ht, List.length_append, List.length_append] at hle
    simp only [List.length_singleton] at hle
    simp only [customhouselaw07_all.l0]
    rw [if_pos (by rw [List.length_map]; omega), if_pos (by omega), rd_map ts i _ hp, written_ok _ hm]
    simp only [Option.bind_some]
    have hs1 : (bs (LxP.written ts[i].2)).size = (LxP.written ts[i].2).length := by rw [← byts_length, byts_bs]
    have hs2 : (bs (LxP.all (ts.take i))).size = (LxP.all (ts.take i)).length := by rw [← byts_length, byts_bs]
    have hs3 : (bs (LxP.written ts[i].2) ++ (⟨#[32]⟩ : ByteArray)).size = (LxP.written ts[i].2).length + 1 := by rw [← byts_length, byts_append, List.length_append, byts_bs]; rfl
    rw [if_pos (by omega), if_pos (by omega), wrap_id (by omega) (by omega)]
    have he : bs (LxP.all (ts.take i)) ++ (bs (LxP.written ts[i].2) ++ (⟨#[32]⟩ : ByteArray)) = bs (LxP.all (ts.take (i + 1))) := by
      apply byts_inj
      rw [byts_append, byts_append, byts_bs, byts_bs, byts_bs, ht]
      rfl
    rw [he]
    exact ih k (i + 1) (by omega) (by omega) (by omega)

/-- The tokens' bytes lie in the text. -/
theorem lexAt_bounds {off : Nat} {l : List UInt8} {ts : List (Nat × Tk)} (h : LexAt off l ts) : (∀ p ∈ ts, off ≤ p.1 ∧ p.1 + p.2.width ≤ off + l.length ∧ p.2.text.length ≤ l.length ∧ 0 < p.2.width ∧ (LxP.written p.2).length = p.2.width) ∧ (LxP.all ts).length ≤ l.length + ts.length := by
  induction h with
  | done off g b hg => simp [LxP.all]
  | more off g w r t ts hg hw h ih =>
    obtain ⟨i1, i2⟩ := ih
    obtain ⟨w1, w2, w3⟩ := hw.width
    have htx : t.text.length ≤ w.length := by rw [w2]; unfold LxP.written; split <;> simp <;> omega
    have hww : (LxP.written t).length = w.length := by rw [← w2]
    constructor
    · intro p hp
      rcases List.mem_cons.1 hp with rfl | hp
      · simp only [List.length_append]
        exact ⟨by omega, by omega, by omega, by omega, by omega⟩
      · obtain ⟨h1, h2, h3, h4, h5⟩ := i1 p hp
        simp only [List.length_append]
        exact ⟨by omega, by omega, by omega, h4, h5⟩
    · simp only [LxP.all, List.length_append, List.length_cons, hww]
      omega
end Go.Proofs.YtalgccjkfanaoaaDoor.LxW
