/- The reference's lexer answers as the plain lexer: the next token, and the list of all tokens (texts of at most 1000000 bytes). -/
import Derived.Test.YtalgccjkfanaoaaDoorLexG
import Derived.Test.YtalgccjkfanaoaaDoorPL12
import Derived.Test.YtalgccjkfanaoaaDoorPL16
import Derived.Test.YtalgccjkfanaoaaDoorPL17
namespace Go.Proofs.YtalgccjkfanaoaaDoor.LxW
open Go.RowKit Go.Proofs.YtalgccjkfanaoaaDoorW.PrintWords Go.Proofs.YtalgccjkfanaoaaDoorW.PrintLast Go.Proofs.YtalgccjkfanaoaaDoorW.PrintMore
open Go.Proofs.YtalgccjkfanaoaaDoor Go.Proofs.YtalgccjkfanaoaaDoor.LxP Go.Proofs.YtalgccjkfanaoaaDoor.PL
set_option linter.unusedVariables false
set_option linter.unusedSimpArgs false

def tokR (i : Nat) : Except Nat Tk → Int × Int × Int × ByteArray × Int
  | .ok t => (t.kind, i, t.n, bs t.text, 0)
  | .error e => (0, 0, 0, (⟨#[]⟩ : ByteArray), e)

theorem letter_ref : ∀ c : UInt8, customhouseref07_letter.f (c.toNat : Int) = some (isL c) := all_bytes (by decide +kernel)
theorem digit_ref : ∀ c : UInt8, customhouseref07_digit.f (c.toNat : Int) = some (isD c) := all_bytes (by decide +kernel)
theorem word_ref : ∀ c : UInt8, customhouseref07_word.f (c.toNat : Int) = some (isW c) := all_bytes (by decide +kernel)
theorem digit_num : ∀ c : UInt8, isD c = true → ((c.toNat : Int) - 48) % 256 = ((c.toNat - 48 : Nat) : Int) ∧ c.toNat - 48 < 10 := all_bytes (by decide +kernel)
theorem has_l0 (t : ByteArray) (ht : t.size ≤ 1000) (c : UInt8) : ∀ (n j k : Nat), t.size - j = n → n < k → j ≤ t.size →
    customhouseref07_has.l0 k t (c.toNat : Int) j = some (((byts t).drop j).contains c) := by
  intro n
  induction n with
  | zero =>
    intro j k h1 h2 h3
    obtain ⟨k, rfl⟩ : ∃ m, k = m + 1 := ⟨k - 1, by omega⟩
    rw [List.drop_of_length_le (by rw [byts_length]; omega)]
    simp only [customhouseref07_has.l0]
    rw [if_neg (by omega)]
    rfl
  | succ n ih =>
    intro j k h1 h2 h3
    obtain ⟨k, rfl⟩ : ∃ m, k = m + 1 := ⟨k - 1, by omega⟩
    have hj : j < (byts t).length := by rw [byts_length]; omega
    have hb := bt_some (s := t) (List.getElem?_eq_getElem hj)
    rw [List.drop_eq_getElem_cons hj, List.contains_cons]
    simp only [customhouseref07_has.l0]
    rw [if_pos (by omega), if_pos (by omega), hb]
    generalize (byts t)[j] = d
    by_cases h : d = c
    · rw [if_pos (by rw [h]), h]; simp
    · rw [if_neg (by
        intro e
        exact h (UInt8.toNat_inj.1 (by omega))), wrap_id (by omega) (by omega)]
      have e : (c == d) = false := by simp; exact fun x => h x.symm
      rw [e, Bool.false_or]
      exact ih (j + 1) k (by omega) (by omega) (by omega)
theorem has_ref (t : ByteArray) (ht : t.size ≤ 1000) (c : UInt8) (k : Nat) (hk : t.size < k) : customhouseref07_has.f k t (c.toNat : Int) = some ((byts t).contains c) := by
  unfold customhouseref07_has.f
  exact has_l0 t ht c t.size 0 k (by omega) hk (by omega)

theorem rest_at (s : ByteArray) (j : Nat) (h : j < s.size) : ∃ c, rest s j = c :: rest s (j + 1) ∧ bt s (j : Int) = (c.toNat : Int) :=
  ⟨s[j], rest_cons s j h, bt_some (s := s) (List.getElem?_eq_getElem (by rw [byts_length]; exact h))⟩
theorem rest_end (s : ByteArray) (j : Nat) (h : ¬ j < s.size) : rest s j = [] := List.drop_of_length_le (by rw [← byts, byts_length]; omega)
theorem extract_ref (s : ByteArray) (i e : Nat) : s.extract i e = bs ((rest s i).take (e - i)) := by
  apply byts_inj
  rw [byts_mid, byts_bs]
  rfl
/-- The run of bytes from j on ends within the text. -/
theorem run_le (p : UInt8 → Bool) (s : ByteArray) (j : Nat) : ((rest s j).takeWhile p).length ≤ s.size - j := by
  have := takeWhile_le p (rest s j)
  rw [rest_length] at this
  exact this

theorem l0_ref (s : ByteArray) (hs : s.size ≤ 1000000) (i : Nat) (y0 y1 y2 : Int) (y3 : ByteArray) : ∀ (n j k : Nat), ((rest s j).takeWhile isW).length = n → n < k → j ≤ s.size → i ≤ j →
    customhouseref07_next.l0 k s i j y0 y1 y2 y3 = some (if 24 < j + n - i then ((0, 0, 0, (⟨#[]⟩ : ByteArray), 2) : Int × Int × Int × ByteArray × Int) else (1, y1, y2, s.extract i (j + n), 0)) := by
  intro n
  have fin : ∀ j : Nat, j ≤ s.size → i ≤ j → (if (wrap64 ((j : Int) - (i : Int))) > 24 then (some (0, 0, 0, (⟨#[]⟩ : ByteArray), 2)) else (if 0 ≤ (i : Int) then (if (i : Int) ≤ (j : Int) then (if (j : Int) ≤ (s.size : Int) then (some (1, y1, y2, s.extract (i : Int).toNat (j : Int).toNat, 0)) else (none)) else (none)) else (none))) = some (if 24 < j + 0 - i then ((0, 0, 0, (⟨#[]⟩ : ByteArray), 2) : Int × Int × Int × ByteArray × Int) else (1, y1, y2, s.extract i (j + 0), 0)) := by
    intro j h1 h2
    rw [wrap_id (by omega) (by omega)]
    by_cases h : 24 < j - i
    · rw [if_pos (by omega), if_pos (by omega)]
    · rw [if_neg (by omega), if_pos (by omega), if_pos (by omega), if_pos (by omega), if_neg (by omega)]
      rfl
  induction n with
  | zero =>
    intro j k h1 h2 h3 h4
    obtain ⟨k, rfl⟩ : ∃ m, k = m + 1 := ⟨k - 1, by omega⟩
    simp only [customhouseref07_next.l0]
    by_cases h : j < s.size
    · obtain ⟨c, e1, e2⟩ := rest_at s j h
      rw [e1] at h1
      have hw : isW c = false := by
        by_cases hw : isW c = true
        · rw [List.takeWhile_cons, if_pos hw] at h1; cases h1
        · simpa using hw
      rw [if_pos (by omega), if_pos (by omega), e2, word_ref, hw, Option.bind_some, if_neg (by decide)]
      exact fin j h3 h4
    · rw [if_neg (by omega)]
      exact fin j h3 h4
  | succ n ih =>
    intro j k h1 h2 h3 h4
    obtain ⟨k, rfl⟩ : ∃ m, k = m + 1 := ⟨k - 1, by omega⟩
    have h : j < s.size := by
      have := run_le isW s j
      omega
    obtain ⟨c, e1, e2⟩ := rest_at s j h
    rw [e1] at h1
    have hw : isW c = true := by
      by_cases hw : isW c = true
      · exact hw
      · rw [List.takeWhile_cons, if_neg hw] at h1; cases h1
    rw [List.takeWhile_cons, if_pos hw, List.length_cons] at h1
    simp only [customhouseref07_next.l0]
    rw [if_pos (by omega), if_pos (by omega), e2, word_ref, hw, Option.bind_some, if_pos rfl, wrap_id (by omega) (by omega)]
    have := ih (j + 1) k (by omega) (by omega) (by omega) (by omega)
    rw [show j + 1 + n = j + (n + 1) by omega] at this
    exact this

theorem l2_ref (s : ByteArray) (hs : s.size ≤ 1000000) (i e : Nat) (y0 y1 : Int) (y3 : ByteArray) (he : e ≤ s.size) (hi : i ≤ e) (h13 : e - i ≤ 13) (hd : ∀ x ∈ (rest s i).take (e - i), isD x = true) : ∀ (n j k v : Nat), e - j = n → n < k → i ≤ j → j ≤ e → v < 10 ^ (j - i) →
    customhouseref07_next.l2 k s i e j y0 y1 v y3 = some (y0, y1, ((((rest s j).take (e - j)).foldl (fun n c => 10 * n + (c.toNat - 48)) v : Nat) : Int), s.extract i e, 0) := by
  intro n
  induction n with
  | zero =>
    intro j k v h1 h2 h3 h4 hv
    obtain ⟨k, rfl⟩ : ∃ m, k = m + 1 := ⟨k - 1, by omega⟩
    simp only [customhouseref07_next.l2]
    rw [if_neg (by omega), if_pos (by omega), if_pos (by omega), if_pos (by omega), h1]
    rfl
  | succ n ih =>
    intro j k v h1 h2 h3 h4 hv
    obtain ⟨k, rfl⟩ : ∃ m, k = m + 1 := ⟨k - 1, by omega⟩
    obtain ⟨c, e1, e2⟩ := rest_at s j (by omega)
    have hc : isD c = true := by
      apply hd
      rw [List.mem_iff_getElem?]
      refine ⟨j - i, ?_⟩
      rw [List.getElem?_take_of_lt (by omega), rest, List.getElem?_drop, show i + (j - i) = j by omega]
      have : (rest s j)[0]? = some c := by rw [e1]; rfl
      rw [rest, List.getElem?_drop] at this
      exact this
    obtain ⟨g1, g2⟩ := digit_num c hc
    have hp : 10 ^ (j + 1 - i) = 10 * 10 ^ (j - i) := by rw [show j + 1 - i = (j - i) + 1 by omega, Nat.pow_succ, Nat.mul_comm]
    have hq : 10 ^ (j + 1 - i) ≤ 10 ^ 13 := Nat.pow_le_pow_right (by omega) (by omega)
    have hv' : 10 * v + (c.toNat - 48) < 10 ^ (j + 1 - i) := by omega
    have hb : (10 : Nat) ^ 13 = 10000000000000 := by decide
    simp only [customhouseref07_next.l2]
    rw [if_pos (by omega), if_pos (by omega), if_pos (by omega), e2, g1, wrap_id (x := (j : Int) + 1) (by omega) (by omega), wrap_id (x := 10 * (v : Int)) (by omega) (by omega), wrap_id (x := 10 * (v : Int) + _) (by omega) (by omega)]
    have := ih (j + 1) k (10 * v + (c.toNat - 48)) (by omega) (by omega) (by omega) (by omega) hv'
    rw [show e - j = (e - (j + 1)) + 1 by omega, e1, List.take_succ_cons, List.foldl_cons]
    have e3 : (((10 * v + (c.toNat - 48) : Nat)) : Int) = 10 * (v : Int) + ((c.toNat - 48 : Nat) : Int) := by omega
    rw [← e3]
    exact this

theorem l1_ref (s : ByteArray) (hs : s.size ≤ 1000000) (i : Nat) (y0 y1 y2 : Int) (y3 : ByteArray) : ∀ (n j k : Nat), ((rest s j).takeWhile isD).length = n → j ≤ s.size →
    customhouseref07_next.l1 (k + n + 1) s i j y0 y1 y2 y3 = customhouseref07_next.j2 k s i (j + n : Nat) y0 y1 y2 y3 := by
  intro n
  induction n with
  | zero =>
    intro j k h1 h3
    rw [show k + 0 + 1 = k + 1 from rfl]
    simp only [customhouseref07_next.l1]
    by_cases h : j < s.size
    · obtain ⟨c, e1, e2⟩ := rest_at s j h
      rw [e1] at h1
      have hw : isD c = false := by
        by_cases hw : isD c = true
        · rw [List.takeWhile_cons, if_pos hw] at h1; cases h1
        · simpa using hw
      rw [if_pos (by omega), if_pos (by omega), e2, digit_ref, hw, Option.bind_some, if_neg (by decide)]
      rfl
    · rw [if_neg (by omega)]
      rfl
  | succ n ih =>
    intro j k h1 h3
    have h : j < s.size := by
      have := run_le isD s j
      omega
    obtain ⟨c, e1, e2⟩ := rest_at s j h
    rw [e1] at h1
    have hw : isD c = true := by
      by_cases hw : isD c = true
      · exact hw
      · rw [List.takeWhile_cons, if_neg hw] at h1; cases h1
    rw [List.takeWhile_cons, if_pos hw, List.length_cons] at h1
    rw [show k + (n + 1) + 1 = (k + n + 1) + 1 by omega]
    simp only [customhouseref07_next.l1]
    rw [if_pos (by omega), if_pos (by omega), e2, digit_ref, hw, Option.bind_some, if_pos rfl, wrap_id (by omega) (by omega)]
    have := ih (j + 1) k (by omega) (by omega)
    rw [show j + 1 + n = j + (n + 1) by omega] at this
    exact this

theorem l3_ref (s : ByteArray) (hs : s.size ≤ 1000000) (i : Nat) : ∀ (n j k : Nat), ((rest s j).takeWhile (fun x => !(x == 34 || x == 10))).length = n → j ≤ s.size →
    customhouseref07_next.l3 (k + n + 1) s i j = customhouseref07_next.j6 k s i (j + n : Nat) := by
  intro n
  induction n with
  | zero =>
    intro j k h1 h3
    rw [show k + 0 + 1 = k + 1 from rfl]
    simp only [customhouseref07_next.l3]
    by_cases h : j < s.size
    · obtain ⟨c, e1, e2⟩ := rest_at s j h
      rw [e1, List.takeWhile_cons] at h1
      rw [if_pos (by omega), if_pos (by omega), e2]
      by_cases h4 : c = 34
      · rw [if_pos (by rw [h4]; rfl)]; rfl
      · by_cases h5 : c = 10
        · rw [if_neg (by rw [h5]; decide), if_pos (by rw [h5]; rfl)]; rfl
        · have : (!(c == 34 || c == 10)) = true := by simp [h4, h5]
          rw [if_pos this] at h1
          cases h1
    · rw [if_neg (by omega)]
      rfl
  | succ n ih =>
    intro j k h1 h3
    have h : j < s.size := by
      have := run_le (fun x => !(x == 34 || x == 10)) s j
      omega
    obtain ⟨c, e1, e2⟩ := rest_at s j h
    rw [e1, List.takeWhile_cons] at h1
    have hw : (!(c == 34 || c == 10)) = true := by
      by_cases hw : (!(c == 34 || c == 10)) = true
      · exact hw
      · rw [if_neg hw] at h1; cases h1
    rw [if_pos hw, List.length_cons] at h1
    have h4 : c ≠ 34 := by rintro rfl; exact absurd hw (by decide)
    have h5 : c ≠ 10 := by rintro rfl; exact absurd hw (by decide)
    rw [show k + (n + 1) + 1 = (k + n + 1) + 1 by omega]
    simp only [customhouseref07_next.l3]
    rw [if_pos (by omega), if_pos (by omega), e2, if_neg (by
      intro e
      exact h4 (UInt8.toNat_inj.1 (by rw [show (34 : UInt8).toNat = 34 from rfl]; omega))), if_neg (by
      intro e
      exact h5 (UInt8.toNat_inj.1 (by rw [show (10 : UInt8).toNat = 10 from rfl]; omega))), wrap_id (by omega) (by omega)]
    have := ih (j + 1) k (by omega) (by omega)
    rw [show j + 1 + n = j + (n + 1) by omega] at this
    exact this

theorem take_run (p : UInt8 → Bool) (l : List UInt8) : l.take (l.takeWhile p).length = l.takeWhile p := by
  induction l with
  | nil => rfl
  | cons c r ih =>
    rw [List.takeWhile_cons]
    by_cases h : p c = true
    · rw [if_pos h, List.length_cons, List.take_succ_cons, ih]
    · rw [if_neg h]; rfl
theorem drop_run (p : UInt8 → Bool) (l : List UInt8) : ∀ x r, l.drop (l.takeWhile p).length = x :: r → p x = false := by
  induction l with
  | nil => intro x r h; cases h
  | cons c l ih =>
    intro x r h
    rw [List.takeWhile_cons] at h
    by_cases hp : p c = true
    · rw [if_pos hp, List.length_cons, List.drop_succ_cons] at h
      exact ih x r h
    · rw [if_neg hp] at h
      injection h with h1 h2
      rw [← h1]
      simpa using hp
theorem run_cons (p : UInt8 → Bool) {c : UInt8} {r : List UInt8} (h : p c = true) : (c :: r).takeWhile p = c :: r.takeWhile p := by rw [List.takeWhile_cons, if_pos h]
theorem all_run (p : UInt8 → Bool) (l : List UInt8) : ∀ x ∈ l.takeWhile p, p x = true := by
  induction l with
  | nil => intro x h; cases h
  | cons c l ih =>
    intro x h
    rw [List.takeWhile_cons] at h
    by_cases hp : p c = true
    · rw [if_pos hp] at h
      rcases List.mem_cons.1 h with rfl | h
      · exact hp
      · exact ih x h
    · rw [if_neg hp] at h; cases h

end Go.Proofs.YtalgccjkfanaoaaDoor.LxW
