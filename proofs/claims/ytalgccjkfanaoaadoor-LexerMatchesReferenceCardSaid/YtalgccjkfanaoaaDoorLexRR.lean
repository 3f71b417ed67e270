/- The reference's next token and its list of all tokens are those of the plain lexer (texts of at most 1000000 bytes). -/
import Derived.Test.YtalgccjkfanaoaaDoorLexR
namespace Go.Proofs.YtalgccjkfanaoaaDoor.LxW
open Go.RowKit Go.Proofs.YtalgccjkfanaoaaDoorW.PrintWords Go.Proofs.YtalgccjkfanaoaaDoorW.PrintLast Go.Proofs.YtalgccjkfanaoaaDoorW.PrintMore
open Go.Proofs.YtalgccjkfanaoaaDoor Go.Proofs.YtalgccjkfanaoaaDoor.LxP Go.Proofs.YtalgccjkfanaoaaDoor.PL
set_option linter.unusedVariables false
set_option linter.unusedSimpArgs false

theorem next_word (s : ByteArray) (hs : s.size ≤ 1000000) (i : Nat) (hi : i < s.size) (k : Nat) (hk : s.size + 40 ≤ k) (c : UInt8) (e1 : rest s i = c :: rest s (i + 1)) (h3 : isL c = true) :
    customhouseref07_next.l0 k s i ((i : Int) + 1) 0 i 0 (⟨#[]⟩ : ByteArray) = some (tokR i (tok (rest s i))) := by
  have hl := run_le isW s (i + 1)
  have := l0_ref s hs i 0 i 0 (⟨#[]⟩ : ByteArray) _ (i + 1) k rfl (by omega) (by omega) (by omega)
  refine this.trans ?_
  have hw : (c :: rest s (i + 1)).takeWhile isW = c :: (rest s (i + 1)).takeWhile isW := run_cons isW (isL_isW h3)
  have hx := extract_ref s i (i + 1 + ((rest s (i + 1)).takeWhile isW).length)
  rw [show i + 1 + ((rest s (i + 1)).takeWhile isW).length - i = ((rest s (i + 1)).takeWhile isW).length + 1 by omega, e1, List.take_succ_cons, take_run] at hx
  rw [hx, e1]
  simp only [tok, h3, if_true, hw, List.length_cons]
  by_cases h : 24 < ((rest s (i + 1)).takeWhile isW).length + 1
  · rw [if_pos (by omega), if_pos h]; rfl
  · rw [if_neg (by omega), if_neg h]; rfl

theorem next_digits (s : ByteArray) (hs : s.size ≤ 1000000) (i : Nat) (hi : i < s.size) (k : Nat) (hk : s.size + 40 ≤ k) (c : UInt8) (e1 : rest s i = c :: rest s (i + 1)) (h3 : isL c = false) (h4 : isD c = true) :
    customhouseref07_next.l1 k s i ((i : Int) + 1) 0 i 0 (⟨#[]⟩ : ByteArray) = some (tokR i (tok (rest s i))) := by
  have hl := run_le isD s (i + 1)
  have hw : (c :: rest s (i + 1)).takeWhile isD = c :: (rest s (i + 1)).takeWhile isD := run_cons isD h4
  have hm := take_run isD (rest s (i + 1))
  have hdr := drop_run isD (rest s (i + 1))
  have hal := all_run isD (rest s (i + 1))
  obtain ⟨q, rfl⟩ : ∃ q, k = q + 20 + ((rest s (i + 1)).takeWhile isD).length + 1 := ⟨k - (20 + ((rest s (i + 1)).takeWhile isD).length + 1), by omega⟩
  have := l1_ref s hs i 0 i 0 (⟨#[]⟩ : ByteArray) _ (i + 1) (q + 20) rfl (by omega)
  refine this.trans ?_
  rw [e1, tok_num c _ h3 h4, hw, List.length_cons, List.drop_succ_cons, rest_drop]
  rw [rest_drop] at hdr
  generalize hT : (rest s (i + 1)).takeWhile isD = T at hw hm hdr hal hl ⊢
  have hx := extract_ref s i (i + 1 + T.length)
  rw [show i + 1 + T.length - i = T.length + 1 by omega, e1, List.take_succ_cons, hm] at hx
  rw [show q + 20 = q + 19 + 1 from rfl]
  simp only [customhouseref07_next.j2]
  rw [wrap_id (by omega) (by omega)]
  by_cases h : 13 < T.length + 1
  · rw [if_pos (by omega), if_pos h, show q + 19 = q + 18 + 1 from rfl]
    simp only [customhouseref07_next.j3, if_true]
    rfl
  · rw [if_neg (by omega), if_neg h]
    have fin : customhouseref07_next.j3 (q + 19) s i ((i + 1 + T.length : Nat) : Int) false 2 i 0 (⟨#[]⟩ : ByteArray) = some (tokR i (.ok ⟨2, val (c :: T), c :: T, T.length + 1⟩)) := by
      rw [show q + 19 = q + 18 + 1 from rfl]
      simp only [customhouseref07_next.j3]
      rw [if_neg (by decide)]
      have g := l2_ref s hs i (i + 1 + T.length) 2 i (⟨#[]⟩ : ByteArray) (by omega) (by omega) (by omega) (by
        rw [show i + 1 + T.length - i = T.length + 1 by omega, e1, List.take_succ_cons, hm]
        intro x hx'
        rcases List.mem_cons.1 hx' with rfl | hx'
        · exact h4
        · exact hal x hx') _ i (q + 18) 0 rfl (by omega) (by omega) (by omega) (Nat.pow_pos (by omega))
      refine g.trans ?_
      rw [hx, show i + 1 + T.length - i = T.length + 1 by omega, e1, List.take_succ_cons, hm]
      rfl
    by_cases he : i + 1 + T.length < s.size
    · obtain ⟨d, d1, d2⟩ := rest_at s (i + 1 + T.length) he
      have hd := hdr d _ d1
      rw [if_pos (by omega), if_pos (by omega), d2, word_ref, Option.bind_some, d1]
      have e : isW d = (isL d || d == 95) := by unfold isW; rw [hd]; simp
      simp only [numR]
      rw [e]
      by_cases hh : (isL d || d == 95) = true
      · rw [hh, if_pos rfl, show q + 19 = q + 18 + 1 from rfl]
        simp only [customhouseref07_next.j3, if_true]
        rfl
      · rw [if_neg hh, show (isL d || d == 95) = false by simpa using hh]
        exact fin
    · rw [if_neg (by omega), rest_end s _ he]
      exact fin

theorem next_text (s : ByteArray) (hs : s.size ≤ 1000000) (i : Nat) (hi : i < s.size) (k : Nat) (hk : s.size + 40 ≤ k) (c : UInt8) (e1 : rest s i = c :: rest s (i + 1)) (h3 : isL c = false) (h4 : isD c = false) (h6 : (c == 34) = true) :
    customhouseref07_next.l3 k s i ((i : Int) + 1) = some (tokR i (tok (rest s i))) := by
  have hl := run_le (fun x => !(x == 34 || x == 10)) s (i + 1)
  have hm := take_run (fun x => !(x == 34 || x == 10)) (rest s (i + 1))
  have hdr := drop_run (fun x => !(x == 34 || x == 10)) (rest s (i + 1))
  obtain ⟨q, rfl⟩ : ∃ q, k = q + 20 + ((rest s (i + 1)).takeWhile (fun x => !(x == 34 || x == 10))).length + 1 := ⟨k - (20 + ((rest s (i + 1)).takeWhile (fun x => !(x == 34 || x == 10))).length + 1), by omega⟩
  have := l3_ref s hs i _ (i + 1) (q + 20) rfl (by omega)
  refine this.trans ?_
  rw [e1, tok_str c _ h3 h4 h6, rest_drop]
  rw [rest_drop] at hdr
  generalize hT : (rest s (i + 1)).takeWhile (fun x => !(x == 34 || x == 10)) = T at hm hdr hl ⊢
  have hx := extract_ref s (i + 1) (i + 1 + T.length)
  rw [show i + 1 + T.length - (i + 1) = T.length by omega, hm] at hx
  rw [show q + 20 = q + 18 + 1 + 1 from rfl]
  simp only [customhouseref07_next.j6, customhouseref07_next.j7]
  by_cases he : i + 1 + T.length < s.size
  · obtain ⟨d, d1, d2⟩ := rest_at s (i + 1 + T.length) he
    have hd := hdr d _ d1
    rw [if_neg (by omega), if_pos (by omega), if_pos (by omega), d2, d1]
    simp only [strR]
    by_cases h10 : d = 10
    · subst h10
      rw [if_pos (by rfl), if_pos (by rfl)]
      rfl
    · have f1 : ((d.toNat : Int) == 10) = false := by
        rw [beq_eq_false_iff_ne]
        intro e
        exact h10 (UInt8.toNat_inj.1 (by rw [show (10 : UInt8).toNat = 10 from rfl]; omega))
      rw [f1, if_neg (by decide), wrap_id (x := ((i + 1 + T.length : Nat) : Int) - (i : Int)) (by omega) (by omega), wrap_id (x := ((i + 1 + T.length : Nat) : Int) - (i : Int) - 1) (by omega) (by omega), wrap_id (x := (i : Int) + 1) (by omega) (by omega), show (d == 10) = false by simpa using h10]
      by_cases h4 : 400 < T.length
      · rw [if_pos (by omega), if_pos h4]; rfl
      · rw [if_neg (by omega), if_pos (by omega), if_pos (by omega), if_pos (by omega), if_neg h4]
        have e3 : ((i : Int) + 1).toNat = i + 1 := by omega
        rw [e3, Int.toNat_natCast, hx]
        rfl
  · have hz : i + 1 + T.length = s.size := by omega
    rw [rest_end s _ he, if_pos (by omega)]
    simp only [if_true]
    rfl

theorem sym3 : ∀ c : UInt8, (byts (⟨#[33, 60, 62]⟩ : ByteArray)).contains c = (c == 33 || c == 60 || c == 62) := all_bytes (by decide +kernel)
theorem sym15 : ∀ c : UInt8, (byts (⟨#[59, 44, 46, 58, 40, 41, 91, 93, 123, 125, 61, 60, 62, 43, 45]⟩ : ByteArray)).contains c = (isS c || c == 60 || c == 62) := all_bytes (by decide +kernel)
theorem eq61 (d : UInt8) : ((d.toNat : Int) == 61) = (d == 61) := by
  revert d
  exact all_bytes (by decide +kernel)
theorem symS : ∀ c : UInt8, (c == 33 || c == 60 || c == 62) = true → (isS c || c == 60 || c == 62) = !(c == 33) := all_bytes (by decide +kernel)

theorem j8_ref (s : ByteArray) (hs : s.size ≤ 1000000) (i : Nat) (hi : i < s.size) (k : Nat) (hk : 20 ≤ k) (c : UInt8) (e1 : rest s i = c :: rest s (i + 1)) (b : Bool) (hb : b = true → i + 1 < s.size) :
    customhouseref07_next.j8 (k + 1) s i ((i : Int) + 1) (c.toNat : Int) b 4 i 0 (⟨#[]⟩ : ByteArray) = some (if b then (4, (i : Int), 0, bs ((rest s i).take 2), 0) else if isS c || c == 60 || c == 62 then (4, (i : Int), 0, bs [c], 0) else ((0, 0, 0, (⟨#[]⟩ : ByteArray), 3) : Int × Int × Int × ByteArray × Int)) := by
  simp only [customhouseref07_next.j8]
  rw [has_ref _ (by decide) c k (by show 15 < k; omega), Option.bind_some, sym15]
  cases b with
  | true =>
    have := hb rfl
    have hx := extract_ref s i (i + 2)
    rw [show i + 2 - i = 2 by omega] at hx
    rw [if_pos rfl, if_pos rfl, wrap_id (by omega) (by omega), if_pos (by omega), if_pos (by omega), if_pos (by omega), Int.toNat_natCast]
    have e3 : ((i : Int) + 1 + 1).toNat = i + 2 := by omega
    rw [e3, hx]
  | false =>
    have hx := extract_ref s i (i + 1)
    rw [show i + 1 - i = 1 by omega, e1, List.take_succ_cons, List.take_zero] at hx
    rw [if_neg (by decide)]
    have e3 : ((i : Int) + 1).toNat = i + 1 := by omega
    by_cases h : (isS c || c == 60 || c == 62) = true
    · rw [if_pos h, if_pos (by omega), if_pos (by omega), if_pos (by omega), Int.toNat_natCast, e3, hx, if_neg (by decide), if_pos h]
    · rw [if_neg h, if_neg (by decide), if_neg h]

theorem next_ref (s : ByteArray) (hs : s.size ≤ 1000000) (i : Nat) (hi : i < s.size) (k : Nat) (hk : s.size + 40 ≤ k) :
    customhouseref07_next.f k s i = some (tokR i (tok (rest s i))) := by
  obtain ⟨c, e1, e2⟩ := rest_at s i hi
  unfold customhouseref07_next.f
  rw [if_pos (by omega), if_pos (by omega), e2, letter_ref, Option.bind_some, wrap_id (by omega) (by omega), digit_ref]
  by_cases h3 : isL c = true
  · rw [if_pos h3]
    exact next_word s hs i hi k hk c e1 h3
  · have h3' : isL c = false := by simpa using h3
    rw [if_neg h3, Option.bind_some]
    by_cases h4 : isD c = true
    · rw [if_pos h4]
      exact next_digits s hs i hi k hk c e1 h3' h4
    · have h4' : isD c = false := by simpa using h4
      rw [if_neg h4]
      by_cases h6 : c = 34
      · rw [if_pos (by rw [h6]; rfl)]
        exact next_text s hs i hi k hk c e1 h3' h4' (by rw [h6]; rfl)
      · have h6' : (c == 34) = false := by simpa using h6
        rw [if_neg (by
          intro e
          exact h6 (UInt8.toNat_inj.1 (by rw [show (34 : UInt8).toNat = 34 from rfl]; omega)))]
        obtain ⟨q, rfl⟩ : ∃ q, k = q + 1 := ⟨k - 1, by omega⟩
        rw [has_ref _ (by decide) c (q + 1) (by show 3 < q + 1; omega), Option.bind_some, sym3]
        by_cases h7 : (c == 33 || c == 60 || c == 62) = true
        · rw [if_pos h7, e1, tok_sym c _ h3' h4' h6' h7]
          have hS := symS c h7
          by_cases he : i + 1 < s.size
          · obtain ⟨d, d1, d2⟩ := rest_at s (i + 1) he
            have d2' : bt s ((i : Int) + 1) = (d.toNat : Int) := d2
            rw [if_pos (by omega), if_pos (by omega), d2', eq61, j8_ref s hs i hi q (by omega) c e1 _ (fun _ => he), hS, e1, d1]
            by_cases h8 : d = 61
            · subst h8
              rw [if_pos (by rfl)]
              rfl
            · rw [if_neg (by simpa using h8)]
              have e5 : symR c (d :: rest s (i + 1 + 1)) = if c == 33 then .error 3 else .ok ⟨4, 0, [c], 1⟩ := by
                unfold symR
                split
                · rename_i heq; injection heq with h9; exact absurd h9 h8
                · rfl
              rw [e5]
              by_cases h9 : (c == 33) = true
              · rw [h9]; rfl
              · rw [show (c == 33) = false by simpa using h9]; rfl
          · rw [if_neg (by omega), j8_ref s hs i hi q (by omega) c e1 _ (fun h => by cases h), hS, rest_end s (i + 1) he]
            rw [if_neg (by decide)]
            simp only [symR]
            by_cases h9 : (c == 33) = true
            · rw [h9]; rfl
            · rw [show (c == 33) = false by simpa using h9]; rfl
        · have h7' : (c == 33 || c == 60 || c == 62) = false := by simpa using h7
          rw [if_neg h7, j8_ref s hs i hi q (by omega) c e1 _ (fun h => by cases h), e1, tok_rest c _ h3' h4' h6' h7']
          have hq : (c == 60 || c == 62) = false := by
            rw [Bool.or_assoc] at h7'
            exact (Bool.or_eq_false_iff.1 h7').2
          rw [if_neg (by decide), Bool.or_assoc, hq, Bool.or_false]
          by_cases h9 : isS c = true
          · rw [h9]; rfl
          · rw [show isS c = false by simpa using h9]; rfl

theorem rest_eq (s : ByteArray) (i : Nat) : (byts s).drop i = rest s i := rfl
theorem lexL_ref (s : ByteArray) (hs : s.size ≤ 20000) : ∀ (n j : Nat) (acc : List PL.S30) (k : Nat), s.size - j ≤ n → j ≤ s.size → acc.length ≤ 5000 → 60000 + n ≤ k → Inv s acc j →
    customhouseref07_Lex.l0 k s acc j = some (lexT s) := by
  intro n
  induction n with
  | zero =>
    intro j acc k h1 h2 h3 h4 hI
    obtain ⟨k, rfl⟩ : ∃ m, k = m + 1 := ⟨k - 1, by omega⟩
    simp only [customhouseref07_Lex.l0]
    rw [if_neg (by omega), hI.done (rest_end s j (by omega))]
  | succ n ih =>
    intro j acc k h1 h2 h3 h4 hI
    obtain ⟨k, rfl⟩ : ∃ m, k = m + 1 := ⟨k - 1, by omega⟩
    simp only [customhouseref07_Lex.l0]
    by_cases h : j < s.size
    · obtain ⟨c, e1, e2⟩ := rest_at s j h
      rw [if_pos (by omega), next_ref s (by omega) j h k (by omega), Option.bind_some]
      cases ht : tok (rest s j) with
      | error e =>
        have := tok_error ht
        refine (if_neg (show ¬ ((e : Int) = 0) by omega)).trans ?_
        rw [hI.error e1 ht]
        rfl
      | ok t =>
        simp only [tokR, if_true]
        by_cases hf : acc.length = 5000
        · rw [if_pos (by omega), hI.full e1 ht hf]
        · obtain ⟨w1, w2, hN⟩ := hI.next e1 ht hf
          obtain ⟨w, r, ew, hv⟩ := view_of_tok ht
          obtain ⟨v1, v2, v3⟩ := hv.width
          have hlen := rest_length s j
          have hwl : w.length ≤ s.size - j := by rw [ew, List.length_append] at hlen; omega
          have htx : t.text.length ≤ (LxP.written t).length := by
            unfold LxP.written
            split <;> simp <;> omega
          have hW := width_ok (j, t) (by show t.text.length ≤ 1000000; rw [← v2] at htx; omega) (by show (LxP.written t).length = t.width; rw [← v2, v1])
          have hW' : customhouseref07_Width.f (t.kind : Int) (j : Int) (t.n : Int) (bs t.text) = some (t.width : Int) := hW
          rw [if_neg (by omega), if_pos (by omega), hW', Option.bind_some, wrap_id (by omega) (by omega)]
          have hG := (gap_ref s (by omega) (s.size - (j + t.width)) (j + t.width) k rfl (by omega) (by omega)).1
          have hG' : customhouseref07_gap.f k s ((j : Int) + (t.width : Int)) = some ((gapE s (j + t.width) : Nat) : Int) := hG
          obtain ⟨q1, q2, q3⟩ := rest_gapE s (j + t.width) w2
          rw [hG', Option.bind_some]
          exact ih (gapE s (j + t.width)) _ k (by omega) q1 (by rw [List.length_append, List.length_singleton]; omega) (by omega) hN
    · rw [if_neg (by omega), hI.done (rest_end s j h)]

theorem lex_ref (s : ByteArray) (k : Nat) (hk : 200000 ≤ k) : customhouseref07_Lex.f k s = some (lexT s) := by
  unfold customhouseref07_Lex.f
  by_cases h : 20000 < s.size
  · rw [if_pos (by omega)]
    unfold lexT
    rw [if_pos h]
  · rw [if_neg (by omega)]
    have hG := (gap_ref s (by omega) (s.size - 0) 0 k rfl (by omega) (by omega)).1
    have hG' : customhouseref07_gap.f k s 0 = some ((gapE s 0 : Nat) : Int) := hG
    obtain ⟨q1, q2, q3⟩ := rest_gapE s 0 (by omega)
    rw [hG', Option.bind_some]
    exact lexL_ref s (by omega) s.size (gapE s 0) [] k (by omega) q1 (by simp) (by omega) (Inv.start s h)

/-- What the lexer tells: a list of tokens with offsets below 1000000, at most 5000. -/
theorem lexT_list (s : ByteArray) (hs : s.size ≤ 21000) : ∃ ts : List (Nat × Tk), (lexT s).1 = ts.map toS ∧ ts.length ≤ 5000 ∧ ∀ p ∈ ts, p.1 ≤ 1000000 := by
  unfold lexT
  by_cases h : 20000 < s.size
  · rw [if_pos h]
    exact ⟨[], rfl, by simp, by simp⟩
  · rw [if_neg h]
    have hl : s.data.toList.length = s.size := byts_length s
    rcases lexN_view (s.data.toList.length + 1) 0 0 s.data.toList (by omega) (by omega) with ⟨ts, h1, h2, h3⟩ | ⟨e, a, j, h1, h2, h3⟩ | ⟨a, h1, h3⟩
    · have : lex s.data.toList = .ok ts := h3
      rw [this]
      refine ⟨ts, rfl, by omega, fun p hp => ?_⟩
      have := (lexAt_bounds h1).1 p hp
      omega
    · have : lex s.data.toList = .error (e, a) := h3
      rw [this]
      exact ⟨[], rfl, by simp, by simp⟩
    · have : lex s.data.toList = .error (2, a) := h3
      rw [this]
      exact ⟨[], rfl, by simp, by simp⟩

end Go.Proofs.YtalgccjkfanaoaaDoor.LxW
