/- LexerWords, the plain law: a name, a sign, a number and a string written together are these four tokens. No conditions. -/
import Derived.Test.YtalgccjkfanaoaaDoorPL14
import Derived.Test.YtalgccjkfanaoaaDoorLexG
namespace Go.Proofs.YtalgccjkfanaoaaDoor.Pure
open Go.RowKit Go.Proofs.YtalgccjkfanaoaaDoor.PL Go.Proofs.YtalgccjkfanaoaaDoorW.PrintWords Go.Proofs.YtalgccjkfanaoaaDoorW.PrintLast
open Go.Proofs.YtalgccjkfanaoaaDoor.LxW Go.Proofs.YtalgccjkfanaoaaDoor.LxP
set_option linter.unusedVariables false
set_option linter.unusedSimpArgs false

theorem letter_ok : ∀ c : UInt8, customhouseref07_letter.f (c.toNat : Int) = some (isL c) := by
  apply all_bytes
  decide +kernel
theorem word_ok : ∀ c : UInt8, customhouseref07_word.f (c.toNat : Int) = some (isW c) := by
  apply all_bytes
  decide +kernel
theorem name_ok (s : ByteArray) (hs : s.size ≤ 140737488351232) : ∀ (n k i : Nat), s.size - i = n → i ≤ s.size → n < k →
    ∃ b, customhouseref07_Name.l0 k s (i : Int) = some b ∧ (b = true → (∀ x ∈ (byts s).drop i, isW x = true) ∧ s.size ≤ 24 ∧ ∃ c w, byts s = c :: w ∧ isL c = true) := by
  intro n
  induction n with
  | zero =>
    intro k i h1 h2 h3
    obtain ⟨k, rfl⟩ : ∃ m, k = m + 1 := ⟨k - 1, by omega⟩
    have hd : (byts s).drop i = [] := List.drop_of_length_le (by rw [byts_length]; omega)
    have c1 : ¬ (i : Int) < (s.size : Int) := by omega
    rw [customhouseref07_Name.l0, if_neg c1, hd]
    by_cases h0 : (s.size : Int) > 0
    · rw [if_pos h0]
      by_cases h24 : (s.size : Int) ≤ 24
      · rw [if_pos h24, if_pos (by omega)]
        cases hb : byts s with
        | nil => have := byts_length s; rw [hb] at this; simp at this; omega
        | cons c w =>
          have hq : bt s ((0 : Nat) : Int) = (c.toNat : Int) := bt_some (by rw [hb]; rfl)
          have hq' : bt s 0 = (c.toNat : Int) := hq
          rw [hq', letter_ok]
          refine ⟨isL c, rfl, fun h => ⟨by simp, by omega, c, w, rfl, h⟩⟩
      · rw [if_neg h24]
        exact ⟨false, rfl, by simp⟩
    · rw [if_neg h0]
      exact ⟨false, rfl, by simp⟩
  | succ n ih =>
    intro k i h1 h2 h3
    obtain ⟨k, rfl⟩ : ∃ m, k = m + 1 := ⟨k - 1, by omega⟩
    have hi : i < (byts s).length := by rw [byts_length]; omega
    have hc : (byts s)[i]? = some (byts s)[i] := List.getElem?_eq_getElem hi
    have hd : (byts s).drop i = (byts s)[i] :: (byts s).drop (i + 1) := by rw [← List.drop_eq_getElem_cons]
    generalize (byts s)[i] = c at hc hd
    have c1 : (i : Int) < (s.size : Int) := by omega
    have c2 : (0 : Int) ≤ (i : Int) := by omega
    have w1 : wrap64 ((i : Int) + 1) = ((i + 1 : Nat) : Int) := by rw [wrap_id (by omega) (by omega)]; rfl
    rw [customhouseref07_Name.l0, if_pos c1, if_pos c2, bt_some hc, word_ok, w1]
    simp only [Option.bind_some]
    by_cases hw : isW c = true
    · rw [if_pos hw]
      obtain ⟨b, e1, e2⟩ := ih k (i + 1) (by omega) (by omega) (by omega)
      refine ⟨b, e1, fun h => ?_⟩
      obtain ⟨q1, q2⟩ := e2 h
      refine ⟨?_, q2⟩
      rw [hd]
      intro x hx
      rcases List.mem_cons.1 hx with rfl | hx
      · exact hw
      · exact q1 x hx
    · rw [if_neg hw]
      exact ⟨false, rfl, by simp⟩

theorem digit_one : ∀ n : Fin 10, (⟨#[48, 49, 50, 51, 52, 53, 54, 55, 56, 57]⟩ : ByteArray).extract n.1 (n.1 + 1) = bs [UInt8.ofNat (48 + n.1)] ∧ isD (UInt8.ofNat (48 + n.1)) = true ∧ (UInt8.ofNat (48 + n.1)).toNat = 48 + n.1 := by
  decide +kernel
theorem val_snoc (w : List UInt8) (c : UInt8) : val (w ++ [c]) = 10 * val w + (c.toNat - 48) := by
  simp [val, List.foldl_append]
theorem bs_append (v w : List UInt8) : bs v ++ bs w = bs (v ++ w) := byts_inj (by rw [byts_append]; rfl)
theorem bs_size (w : List UInt8) : (bs w).size = w.length := by rw [← byts_length]; rfl
theorem decimal_one (k n : Nat) (hn : n < 10) : customhouseref07_Decimal.f (k + 1) (n : Int) = some (bs [UInt8.ofNat (48 + n)]) := by
  have c1 : (n : Int) < 10 := by omega
  have c2 : (0 : Int) ≤ (n : Int) := by omega
  have w1 : wrap64 ((n : Int) + 1) = ((n + 1 : Nat) : Int) := by rw [wrap_id (by omega) (by omega)]; rfl
  have c3 : (n : Int) ≤ ((n + 1 : Nat) : Int) := by omega
  have c4 : ((n + 1 : Nat) : Int) ≤ 10 := by omega
  rw [customhouseref07_Decimal.f, if_pos c1, if_pos c2, w1, if_pos c3, if_pos c4, Int.toNat_natCast, Int.toNat_natCast]
  rw [(digit_one ⟨n, hn⟩).1]
theorem decimal_ok : ∀ (m k n : Nat), n < 10 ^ (m + 1) → m ≤ 30 → m < k → n ≤ 10000000000000 →
    ∃ w, customhouseref07_Decimal.f k (n : Int) = some (bs w) ∧ 0 < w.length ∧ w.length ≤ m + 1 ∧ (∀ x ∈ w, isD x = true) ∧ val w = n := by
  intro m
  induction m with
  | zero =>
    intro k n h1 h0 h2 h3
    obtain ⟨k, rfl⟩ : ∃ m, k = m + 1 := ⟨k - 1, by omega⟩
    have hn : n < 10 := by simpa using h1
    obtain ⟨_, d2, d3⟩ := digit_one ⟨n, hn⟩
    have d3 : (UInt8.ofNat (48 + n)).toNat = 48 + n := d3
    exact ⟨_, decimal_one k n hn, by simp, by simp, by simpa using d2, by simp only [val, List.foldl_cons, List.foldl_nil]; omega⟩
  | succ m ih =>
    intro k n h1 h0 h2 h3
    obtain ⟨k, rfl⟩ : ∃ m, k = m + 2 := ⟨k - 2, by omega⟩
    by_cases hn : n < 10
    · obtain ⟨_, d2, d3⟩ := digit_one ⟨n, hn⟩
      have d3 : (UInt8.ofNat (48 + n)).toNat = 48 + n := d3
      exact ⟨_, decimal_one (k + 1) n hn, by simp, by simp, by simpa using d2, by simp only [val, List.foldl_cons, List.foldl_nil]; omega⟩
    · have c1 : ¬ (n : Int) < 10 := by omega
      have e1 : wrap64 (Int.tdiv (n : Int) 10) = ((n / 10 : Nat) : Int) := by
        rw [Int.tdiv_eq_ediv_of_nonneg (by omega), wrap_id (by omega) (by omega)]
        omega
      have e2 : Int.tmod (n : Int) 10 = ((n % 10 : Nat) : Int) := by
        rw [Int.tmod_eq_emod_of_nonneg (by omega)]
        omega
      have hp : n / 10 < 10 ^ (m + 1) := by
        rw [Nat.pow_succ] at h1
        omega
      obtain ⟨w, f1, f2, f3, f4, f5⟩ := ih (k + 1) (n / 10) hp (by omega) (by omega) (by omega)
      have hr : n % 10 < 10 := Nat.mod_lt _ (by decide)
      obtain ⟨_, d2, d3⟩ := digit_one ⟨n % 10, hr⟩
      have d3 : (UInt8.ofNat (48 + n % 10)).toNat = 48 + n % 10 := d3
      refine ⟨w ++ [UInt8.ofNat (48 + n % 10)], ?_, by simp, by simp; omega, ?_, ?_⟩
      · have c2 : (bs w).size + (bs [UInt8.ofNat (48 + n % 10)]).size ≤ 9223372036854775807 := by
          rw [bs_size, bs_size]
          simp only [List.length_singleton]
          omega
        rw [customhouseref07_Decimal.f, if_neg c1, e1, e2, f1, decimal_one k _ hr]
        simp only [Option.bind_some]
        rw [if_pos c2, bs_append]
      · intro x hx
        rcases List.mem_append.1 hx with hx | hx
        · exact f4 x hx
        · rw [List.mem_singleton.1 hx]; exact d2
      · rw [val_snoc, f5]
        omega

theorem signs : ∀ n : Fin 15, ∃ c : UInt8, (⟨#[61, 59, 60, 62, 40, 41, 123, 125, 91, 93, 44, 46, 58, 43, 45]⟩ : ByteArray).extract n.1 (n.1 + 1) = bs [c] ∧ isW c = false ∧ (isS c = true ∨ (c == 60 || c == 62) = true) := by
  intro n
  have h : ∀ n : Fin 15, (fun c : UInt8 => (⟨#[61, 59, 60, 62, 40, 41, 123, 125, 91, 93, 44, 46, 58, 43, 45]⟩ : ByteArray).extract n.1 (n.1 + 1) = bs [c] ∧ isW c = false ∧ (isS c = true ∨ (c == 60 || c == 62) = true)) (([61, 59, 60, 62, 40, 41, 123, 125, 91, 93, 44, 46, 58, 43, 45] : List UInt8)[n.1]'n.2) := by decide +kernel
  exact ⟨_, h n⟩

theorem four (s t : ByteArray) (c : UInt8) (w : List UInt8) (n : Nat) (hs : (∀ x ∈ byts s, isW x = true) ∧ s.size ≤ 24 ∧ ∃ c w, byts s = c :: w ∧ isL c = true) (hc : isW c = false) (hc2 : isS c = true ∨ (c == 60 || c == 62) = true)
    (hw : 0 < w.length ∧ w.length ≤ 13 ∧ (∀ x ∈ w, isD x = true) ∧ val w = n) (ht : ∀ x ∈ byts t, (x == 34 || x == 10) = false) (htl : t.size ≤ 400) :
    lexT (((((s ++ bs [c]) ++ bs w) ++ (⟨#[34]⟩ : ByteArray)) ++ t) ++ (⟨#[34]⟩ : ByteArray)) =
      ([⟨1, 0, 0, s⟩, ⟨4, s.size, 0, bs [c]⟩, ⟨2, (s.size + 1 : Nat), n, bs w⟩, ⟨3, (s.size + 1 + w.length : Nat), 0, t⟩], 0, 0) := by
  obtain ⟨hs1, hs2, d, v, hs3, hs4⟩ := hs
  obtain ⟨hw1, hw2, hw3, hw4⟩ := hw
  obtain ⟨e, u, rfl⟩ : ∃ e u, w = e :: u := by
    cases w with
    | nil => simp at hw1
    | cons e u => exact ⟨e, u, rfl⟩
  have hsl : (d :: v).length = s.size := by rw [← hs3, byts_length]
  have n34 : byts (⟨#[34]⟩ : ByteArray) = [34] := rfl
  have hb : byts (((((s ++ bs [c]) ++ bs (e :: u)) ++ (⟨#[34]⟩ : ByteArray)) ++ t) ++ (⟨#[34]⟩ : ByteArray)) = [] ++ ((d :: v) ++ ([] ++ ([c] ++ ([] ++ ((e :: u) ++ ([] ++ ((34 :: (byts t ++ [34])) ++ []))))))) := by
    simp only [byts_append, n34, hs3, byts_bs [c], byts_bs (e :: u), List.append_assoc, List.nil_append, List.append_nil, List.cons_append, List.singleton_append]
  have hW34 : isW 34 = false := rfl
  have he : isD e = true := hw3 e (List.mem_cons_self ..)
  have t1 : TokV (d :: v) ⟨1, 0, d :: v, (d :: v).length⟩ ([] ++ ([c] ++ ([] ++ ((e :: u) ++ ([] ++ ((34 :: (byts t ++ [34])) ++ [])))))) :=
    .name d v _ hs4 (by rw [← hs3]; exact hs1) (by omega) (by intro x r hx; simp at hx; rw [← hx.1]; exact hc)
  have t2 : TokV [c] ⟨4, 0, [c], 1⟩ ([] ++ ((e :: u) ++ ([] ++ ((34 :: (byts t ++ [34])) ++ [])))) := by
    rcases hc2 with h | h
    · exact .sym c _ h
    · refine .angle c _ h ?_
      intro x r hx
      simp at hx
      rw [← hx.1]
      rintro rfl
      exact absurd he (by decide)
  have t3 : TokV (e :: u) ⟨2, val (e :: u), e :: u, (e :: u).length⟩ ([] ++ ((34 :: (byts t ++ [34])) ++ [])) :=
    .num e u _ hw3 hw2 (by intro x r hx; simp at hx; rw [← hx.1]; exact hW34)
  have t4 : TokV (34 :: (byts t ++ [34])) ⟨3, 0, byts t, (byts t).length + 2⟩ [] := .str (byts t) [] ht (by rw [byts_length]; exact htl)
  have L := LexAt.more 0 [] (d :: v) _ _ _ rfl t1 (.more _ [] [c] _ _ _ rfl t2 (.more _ [] (e :: u) _ _ _ rfl t3 (.more _ [] (34 :: (byts t ++ [34])) _ _ _ rfl t4 (.done _ [] false rfl))))
  rw [← hb] at L
  have hz : (((((s ++ bs [c]) ++ bs (e :: u)) ++ (⟨#[34]⟩ : ByteArray)) ++ t) ++ (⟨#[34]⟩ : ByteArray)).size ≤ 5000 := by
    simp only [ByteArray.size_append, bs_size, show (⟨#[34]⟩ : ByteArray).size = 1 from rfl, List.length_singleton]
    omega
  rw [lexT_ok L hz]
  have hbs : bs (d :: v) = s := by rw [← hs3]; exact bs_byts s
  have hbt : bs (byts t) = t := bs_byts t
  simp only [List.map_cons, List.map_nil, toS, hbs, hbt, hw4, hsl, List.length_nil, List.length_singleton, Nat.add_zero, Nat.zero_add]
  rfl

theorem scan_ok (x0 t : ByteArray) (x1 x2 : Int) (ht : t.size ≤ 400) : ∀ (n k i : Nat), t.size - i = n → i ≤ t.size →
    customhouselaw07_LexerWords.l0 (k + n + 1) x0 x1 x2 t true (i : Int) = some true ∨
    ((∀ x ∈ (byts t).drop i, (x == 34 || x == 10) = false) ∧ customhouselaw07_LexerWords.l0 (k + n + 1) x0 x1 x2 t true (i : Int) = customhouselaw07_LexerWords.l0 (k + 1) x0 x1 x2 t true (t.size : Int)) := by
  intro n
  induction n with
  | zero =>
    intro k i h1 h2
    have hi : i = t.size := by omega
    subst hi
    exact .inr ⟨by rw [List.drop_of_length_le (by rw [byts_length]; exact Nat.le_refl _)]; simp, rfl⟩
  | succ n ih =>
    intro k i h1 h2
    have hi : i < (byts t).length := by rw [byts_length]; omega
    have hc : (byts t)[i]? = some (byts t)[i] := List.getElem?_eq_getElem hi
    have hd : (byts t).drop i = (byts t)[i] :: (byts t).drop (i + 1) := by rw [← List.drop_eq_getElem_cons]
    generalize (byts t)[i] = c at hc hd
    have c1 : (i : Int) < (t.size : Int) := by omega
    have c2 : (0 : Int) ≤ (i : Int) := by omega
    have w1 : wrap64 ((i : Int) + 1) = ((i + 1 : Nat) : Int) := by rw [wrap_id (by omega) (by omega)]; rfl
    rw [show k + (n + 1) + 1 = (k + n + 1) + 1 by omega]
    rw [customhouselaw07_LexerWords.l0, if_pos c1, if_pos c2, bt_some hc, w1]
    by_cases h34 : (c.toNat : Int) = 34
    · rw [if_pos h34]; exact .inl rfl
    · rw [if_neg h34]
      by_cases h10 : (c.toNat : Int) = 10
      · rw [if_pos h10]; exact .inl rfl
      · rw [if_neg h10]
        rcases ih k (i + 1) (by omega) (by omega) with h | ⟨h, h'⟩
        · exact .inl h
        · refine .inr ⟨?_, h'⟩
          rw [hd]
          intro x hx
          rcases List.mem_cons.1 hx with rfl | hx
          · rw [Bool.or_eq_false_iff]
            constructor
            · rw [beq_eq_false_iff_ne]; rintro rfl; exact h34 rfl
            · rw [beq_eq_false_iff_ne]; rintro rfl; exact h10 rfl
          · exact h x hx

theorem LexerWords : customhouselaw07_LexerWords.Pure := by
  intro s a b t hs ha hb ht
  have ha' : 0 ≤ a := by
    simp only [Lit.wf, Bool.and_eq_true, decide_eq_true_eq] at ha
    have e1 : IntKind.min .u64 = 0 := by decide
    omega
  have hb' : 0 ≤ b ∧ b ≤ 255 := by
    simp only [Lit.wf, Bool.and_eq_true, decide_eq_true_eq] at hb
    have e1 : IntKind.min .u8 = 0 := by decide
    have e2 : IntKind.max .u8 = 255 := by decide
    omega
  obtain ⟨k, hk⟩ : ∃ k : Nat, s.size + 5000 ≤ k := ⟨s.size + 5000, Nat.le_refl _⟩
  refine ⟨k + t.size + 2, ?_⟩
  unfold customhouselaw07_LexerWords.f customhouselaw07_head.f
  simp only [Option.bind_some]
  obtain ⟨nb, hn1, hn2⟩ := name_ok s hs s.size (k + t.size + 2) 0 (by omega) (by omega) (by omega)
  have hn1' : customhouseref07_Name.f (k + t.size + 2) s = some nb := hn1
  rw [hn1']
  simp only [Option.bind_some]
  by_cases hnb : nb = true
  · rw [if_pos hnb]
    by_cases h4 : (t.size : Int) > 400
    · rw [decide_eq_true h4, customhouselaw07_LexerWords.j0]
      exact if_pos rfl
    · rw [decide_eq_false h4, customhouselaw07_LexerWords.j0, if_neg (by decide)]
      rw [show k + t.size + 1 = (k + t.size) + 1 by rfl]
      rcases scan_ok s t a b (by omega) t.size k 0 (by omega) (by omega) with h | ⟨h, h'⟩
      · exact h
      · have h'' : customhouselaw07_LexerWords.l0 (k + t.size + 1) s a b t true 0 = customhouselaw07_LexerWords.l0 (k + 1) s a b t true (t.size : Int) := h'
        rw [h'']
        obtain ⟨q, hq, hql⟩ : ∃ q : Nat, wrap64 (Int.tmod a 10000000000000) = (q : Int) ∧ q < 10000000000000 := by
          refine ⟨(Int.tmod a 10000000000000).toNat, ?_, ?_⟩
          · rw [Int.tmod_eq_emod_of_nonneg ha', wrap_id (by omega) (by omega)]
            omega
          · rw [Int.tmod_eq_emod_of_nonneg ha']
            omega
        have HQ := Aside0.mk hq
        clear hq
        obtain ⟨i, hi, hil⟩ : ∃ i : Nat, Int.tmod (wrap64 b) 15 = (i : Int) ∧ i < 15 := by
          refine ⟨(Int.tmod (wrap64 b) 15).toNat, ?_, ?_⟩
          · rw [wrap_id (by omega) (by omega), Int.tmod_eq_emod_of_nonneg hb'.1]
            omega
          · rw [wrap_id (by omega) (by omega), Int.tmod_eq_emod_of_nonneg hb'.1]
            omega
        have HI := Aside0.mk hi
        clear hi
        obtain ⟨w, d1, d2, d3, d4, d5⟩ := decimal_ok 12 k q (by omega) (by omega) (by omega) (by omega)
        obtain ⟨c, g1, g2, g3⟩ := signs ⟨i, hil⟩
        have hf := four s t c w q (by have := hn2 hnb; simpa using this) g2 g3 ⟨d2, d3, d4, d5⟩ (by simpa using h) (by omega)
        have W1 : Aside0 (wrap64 ((i : Int) + 1) = ((i + 1 : Nat) : Int)) := ⟨by rw [wrap_id (by omega) (by omega)]; rfl⟩
        have W2 : Aside0 (wrap64 ((s.size : Int) + 1) = ((s.size + 1 : Nat) : Int)) := ⟨by rw [wrap_id (by omega) (by omega)]; rfl⟩
        have hs24 := (hn2 hnb).2.1
        have W3 : Aside0 (wrap64 (((s.size + 1 : Nat) : Int) + ((bs w).size : Int)) = ((s.size + 1 + w.length : Nat) : Int)) := ⟨by rw [bs_size, wrap_id (by omega) (by omega)]; rfl⟩
        have c0 : ¬ (t.size : Int) < (t.size : Int) := by omega
        have c1 : (0 : Int) ≤ (i : Int) := by omega
        have c2 : (i : Int) ≤ ((i + 1 : Nat) : Int) := by omega
        have c3 : ((i + 1 : Nat) : Int) ≤ 15 := by omega
        have one : (⟨#[34]⟩ : ByteArray).size = 1 := rfl
        have z1 : s.size + (bs [c]).size ≤ 9223372036854775807 := by rw [bs_size]; simp only [List.length_singleton]; omega
        have z2 : (s ++ bs [c]).size + (bs w).size ≤ 9223372036854775807 := by simp only [ByteArray.size_append, bs_size, List.length_singleton]; omega
        have z3 : ((s ++ bs [c]) ++ bs w).size + 1 ≤ 9223372036854775807 := by simp only [ByteArray.size_append, bs_size, List.length_singleton]; omega
        have z4 : (((s ++ bs [c]) ++ bs w) ++ (⟨#[34]⟩ : ByteArray)).size + t.size ≤ 9223372036854775807 := by simp only [ByteArray.size_append, bs_size, List.length_singleton, one]; omega
        have z5 : ((((s ++ bs [c]) ++ bs w) ++ (⟨#[34]⟩ : ByteArray)) ++ t).size + 1 ≤ 9223372036854775807 := by simp only [ByteArray.size_append, bs_size, List.length_singleton, one]; omega
        have w1 := W1.out
        have w2 := W2.out
        have w3 := W3.out
        rw [customhouselaw07_LexerWords.l0, if_neg c0, HQ.out, d1, HI.out, w1]
        have g1' : (⟨#[61, 59, 60, 62, 40, 41, 123, 125, 91, 93, 44, 46, 58, 43, 45]⟩ : ByteArray).extract i (i + 1) = bs [c] := g1
        simp only [Option.bind_some, Int.toNat_natCast, g1']
        simp only [if_pos c1, if_pos c2, if_pos c3, if_pos z1, if_pos z2, if_pos z3, if_pos z4, if_pos z5, lexer_Lex.f, hf, Option.bind_some, w2, w3]
        simp [rd_T30]
  · rw [if_neg hnb, customhouselaw07_LexerWords.j0]
    exact if_pos rfl

end Go.Proofs.YtalgccjkfanaoaaDoor.Pure
