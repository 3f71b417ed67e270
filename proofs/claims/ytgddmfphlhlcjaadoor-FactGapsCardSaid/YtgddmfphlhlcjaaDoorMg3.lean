/- The plain lexer: a list of bytes is divided into tokens; no program in sight.
The scanner's methods 'at' and 'while': what they return, for a scanner that lies in memory with the classes of bytes. -/
import Derived.Test.YtgddmfphlhlcjaaDoorPF0
import Derived.Lib.Hide
import Derived.Test.YtgddmfphlhlcjaaDoorShelf
namespace Go.Proofs.YtgddmfphlhlcjaaDoor.LxP

def isL (c : UInt8) : Bool := (97 ≤ c && c ≤ 122) || (65 ≤ c && c ≤ 90)
def isD (c : UInt8) : Bool := 48 ≤ c && c ≤ 57
def isW (c : UInt8) : Bool := isL c || isD c || c == 95
def isB (c : UInt8) : Bool := c == 32 || c == 9 || c == 10
def isS (c : UInt8) : Bool := [59, 44, 46, 58, 40, 41, 91, 93, 123, 125, 61, 43, 45].contains c

/-- What is left behind the gaps; the flag: inside a comment. -/
def gapS : Bool → List UInt8 → List UInt8
  | _, [] => []
  | false, c :: r => if isB c then gapS false r else if c == 35 then gapS true r else c :: r
  | true, c :: r => if c == 10 then gapS false r else gapS true r

/-- The state behind a gap; none: it is no gap. -/
def st : Bool → List UInt8 → Option Bool
  | b, [] => some b
  | false, c :: r => if isB c then st false r else if c == 35 then st true r else none
  | true, c :: r => if c == 10 then st false r else st true r

def val (w : List UInt8) : Nat := w.foldl (fun n c => 10 * n + (c.toNat - 48)) 0

/-- kind, value, bytes (of a string: without quotes), width. -/
structure Tk where
  kind : Nat
  n : Nat
  text : List UInt8
  width : Nat
deriving DecidableEq, Repr

def tok : List UInt8 → Except Nat Tk
  | [] => .error 3
  | c :: r =>
    if isL c then
      let w := (c :: r).takeWhile isW
      if 24 < w.length then .error 2 else .ok ⟨1, 0, w, w.length⟩
    else if isD c then
      let w := (c :: r).takeWhile isD
      if 13 < w.length then .error 4
      else match (c :: r).drop w.length with
        | [] => .ok ⟨2, val w, w, w.length⟩
        | d :: _ => if isL d || d == 95 then .error 4 else .ok ⟨2, val w, w, w.length⟩
    else if c == 34 then
      let b := r.takeWhile (fun x => !(x == 34 || x == 10))
      match r.drop b.length with
      | [] => .error 6
      | d :: _ => if d == 10 then .error 6 else if 400 < b.length then .error 2 else .ok ⟨3, 0, b, b.length + 2⟩
    else if c == 33 || c == 60 || c == 62 then
      match r with
      | 61 :: _ => .ok ⟨4, 0, [c, 61], 2⟩
      | _ => if c == 33 then .error 3 else .ok ⟨4, 0, [c], 1⟩
    else if isS c then .ok ⟨4, 0, [c], 1⟩
    else .error 3

/-- Tokens with their offsets, or an error with its offset; k: rounds, off: the offset, n: how many tokens there are already. -/
def lexN : Nat → Nat → Nat → List UInt8 → Except (Nat × Nat) (List (Nat × Tk))
  | 0, _, _, _ => .ok []
  | k + 1, off, n, l =>
    match gapS false l with
    | [] => .ok []
    | c :: r =>
      match tok (c :: r) with
      | .error e => .error (e, off + (l.length - (c :: r).length))
      | .ok t =>
        if n = 5000 then .error (2, off + (l.length - (c :: r).length))
        else match lexN k (off + (l.length - (c :: r).length) + t.width) (n + 1) ((c :: r).drop t.width) with
          | .error e => .error e
          | .ok ts => .ok ((off + (l.length - (c :: r).length), t) :: ts)

def lex (l : List UInt8) : Except (Nat × Nat) (List (Nat × Tk)) := lexN (l.length + 1) 0 0 l

/-! gaps -/
theorem st_append : ∀ (b b' : Bool) (g r : List UInt8), st b g = some b' → gapS b (g ++ r) = gapS b' r
  | b, b', [], r, h => by simp [st] at h; subst h; rfl
  | false, b', c :: g, r, h => by
    simp only [st] at h
    simp only [List.cons_append, gapS]
    split at h
    · rename_i h1; rw [if_pos h1]; exact st_append _ _ _ _ h
    · rename_i h1; rw [if_neg h1]
      split at h
      · rename_i h2; rw [if_pos h2]; exact st_append _ _ _ _ h
      · cases h
  | true, b', c :: g, r, h => by
    simp only [st] at h
    simp only [List.cons_append, gapS]
    split at h
    · rename_i h1; rw [if_pos h1]; exact st_append _ _ _ _ h
    · rename_i h1; rw [if_neg h1]; exact st_append _ _ _ _ h

theorem st_st : ∀ (b b' : Bool) (g r : List UInt8), st b g = some b' → st b (g ++ r) = st b' r
  | b, b', [], r, h => by simp [st] at h; subst h; rfl
  | false, b', c :: g, r, h => by
    simp only [st] at h
    simp only [List.cons_append, st]
    split at h
    · rename_i h1; rw [if_pos h1]; exact st_st _ _ _ _ h
    · rename_i h1; rw [if_neg h1]
      split at h
      · rename_i h2; rw [if_pos h2]; exact st_st _ _ _ _ h
      · cases h
  | true, b', c :: g, r, h => by
    simp only [st] at h
    simp only [List.cons_append, st]
    split at h
    · rename_i h1; rw [if_pos h1]; exact st_st _ _ _ _ h
    · rename_i h1; rw [if_neg h1]; exact st_st _ _ _ _ h

/-- A list is a gap, or a gap (outside of comments) and a byte that begins no gap. -/
theorem gap_split : ∀ (b : Bool) (l : List UInt8), (gapS b l = [] ∧ ∃ b', st b l = some b') ∨
    ∃ g c r, l = g ++ c :: r ∧ gapS b l = c :: r ∧ st b g = some false ∧ isB c = false ∧ (c == 35) = false
  | b, [] => .inl ⟨by cases b <;> rfl, b, by cases b <;> rfl⟩
  | false, c :: l => by
    simp only [gapS, st]
    by_cases h1 : isB c = true
    · rw [if_pos h1, if_pos h1]
      rcases gap_split false l with h | ⟨g, d, r, e, h2, h3, h4⟩
      · exact .inl h
      · exact .inr ⟨c :: g, d, r, by rw [e]; rfl, h2, by simp only [st]; rw [if_pos h1]; exact h3, h4⟩
    · rw [if_neg h1, if_neg h1]
      by_cases h2 : (c == 35) = true
      · rw [if_pos h2, if_pos h2]
        rcases gap_split true l with h | ⟨g, d, r, e, h3, h4, h5⟩
        · exact .inl h
        · exact .inr ⟨c :: g, d, r, by rw [e]; rfl, h3, by simp only [st]; rw [if_neg h1, if_pos h2]; exact h4, h5⟩
      · rw [if_neg h2, if_neg h2]
        exact .inr ⟨[], c, l, rfl, rfl, rfl, by simpa using h1, by simpa using h2⟩
  | true, c :: l => by
    simp only [gapS, st]
    by_cases h1 : (c == 10) = true
    · rw [if_pos h1, if_pos h1]
      rcases gap_split false l with h | ⟨g, d, r, e, h2, h3, h4⟩
      · exact .inl h
      · exact .inr ⟨c :: g, d, r, by rw [e]; rfl, h2, by simp only [st]; rw [if_pos h1]; exact h3, h4⟩
    · rw [if_neg h1, if_neg h1]
      rcases gap_split true l with h | ⟨g, d, r, e, h2, h3, h4⟩
      · exact .inl h
      · exact .inr ⟨c :: g, d, r, by rw [e]; rfl, h2, by simp only [st]; rw [if_neg h1]; exact h3, h4⟩

theorem gapS_here {c : UInt8} {r : List UInt8} (h : isB c = false) (h' : (c == 35) = false) : gapS false (c :: r) = c :: r := by
  simp [gapS, h, h']

theorem gapS_of_st {b b' : Bool} {g : List UInt8} (h : st b g = some b') : gapS b g = [] := by
  have := st_append b b' g [] h
  rw [List.append_nil] at this
  rw [this]; cases b' <;> rfl

/-- A gap ends with a line feed: outside of comments. -/
theorem st_line {g : List UInt8} {b : Bool} (h : st false g = some b) (r : List UInt8) : gapS false (g ++ 10 :: r) = gapS false r := by
  rw [st_append _ _ _ _ h]
  cases b <;> simp [gapS, isB]
theorem st_line' {g : List UInt8} {b : Bool} (h : st false g = some b) : st false (g ++ [10]) = some false := by
  rw [st_st _ _ _ _ h]
  cases b <;> simp [st, isB]

/-! a token -/
def written (t : Tk) : List UInt8 := if t.kind = 3 then 34 :: (t.text ++ [34]) else t.text

/-- What a token is: its bytes, the token, and what follows. -/
inductive TokV : List UInt8 → Tk → List UInt8 → Prop
  | name (c : UInt8) (w r : List UInt8) (hc : isL c = true) (hw : ∀ x ∈ c :: w, isW x = true) (hn : (c :: w).length ≤ 24) (hr : ∀ x s, r = x :: s → isW x = false) : TokV (c :: w) ⟨1, 0, c :: w, (c :: w).length⟩ r
  | num (c : UInt8) (w r : List UInt8) (hw : ∀ x ∈ c :: w, isD x = true) (hn : (c :: w).length ≤ 13) (hr : ∀ x s, r = x :: s → isW x = false) : TokV (c :: w) ⟨2, val (c :: w), c :: w, (c :: w).length⟩ r
  | str (b r : List UInt8) (hb : ∀ x ∈ b, (x == 34 || x == 10) = false) (hn : b.length ≤ 400) : TokV (34 :: (b ++ [34])) ⟨3, 0, b, b.length + 2⟩ r
  | two (c : UInt8) (r : List UInt8) (hc : (c == 33 || c == 60 || c == 62) = true) : TokV [c, 61] ⟨4, 0, [c, 61], 2⟩ r
  | angle (c : UInt8) (r : List UInt8) (hc : (c == 60 || c == 62) = true) (hr : ∀ x s, r = x :: s → x ≠ 61) : TokV [c] ⟨4, 0, [c], 1⟩ r
  | sym (c : UInt8) (r : List UInt8) (hc : isS c = true) : TokV [c] ⟨4, 0, [c], 1⟩ r

theorem TokV.width {w : List UInt8} {t : Tk} {r : List UInt8} (h : TokV w t r) : t.width = w.length ∧ w = written t ∧ 0 < w.length := by
  cases h <;> simp [written]

theorem isL_isW {c : UInt8} (h : isL c = true) : isW c = true := by simp [isW, h]
theorem isD_isW {c : UInt8} (h : isD c = true) : isW c = true := by simp [isW, h]
theorem isD_notL {c : UInt8} (h : isD c = true) : isL c = false := by
  simp only [isD, isL, Bool.and_eq_true, decide_eq_true_eq, UInt8.le_iff_toNat_le] at h ⊢
  simp only [Bool.or_eq_false_iff, Bool.and_eq_false_iff, decide_eq_false_iff_not]
  have e1 : (48 : UInt8).toNat = 48 := rfl
  have e2 : (57 : UInt8).toNat = 57 := rfl
  have e3 : (97 : UInt8).toNat = 97 := rfl
  have e4 : (65 : UInt8).toNat = 65 := rfl
  omega

theorem takeWhile_all (p : UInt8 → Bool) : ∀ (w r : List UInt8), (∀ x ∈ w, p x = true) → (∀ x s, r = x :: s → p x = false) → (w ++ r).takeWhile p = w
  | [], [], _, _ => rfl
  | [], x :: s, _, h => by simp [h x s rfl]
  | c :: w, r, h, h' => by
    simp only [List.cons_append, List.takeWhile_cons, h c (by simp), if_true]
    rw [takeWhile_all p w r (fun x hx => h x (by simp [hx])) h']
theorem takeWhile_split (p : UInt8 → Bool) : ∀ (l : List UInt8), ∃ r, l = l.takeWhile p ++ r ∧ (∀ x ∈ l.takeWhile p, p x = true) ∧ (∀ x s, r = x :: s → p x = false)
  | [] => ⟨[], rfl, by simp, by simp⟩
  | c :: l => by
    obtain ⟨r, h1, h2, h3⟩ := takeWhile_split p l
    by_cases hc : p c = true
    · refine ⟨r, ?_, ?_, h3⟩
      · rw [List.takeWhile_cons, if_pos hc, List.cons_append, ← h1]
      · rw [List.takeWhile_cons, if_pos hc]
        intro x hx
        rcases List.mem_cons.1 hx with rfl | hx
        · exact hc
        · exact h2 x hx
    · refine ⟨c :: l, by rw [List.takeWhile_cons, if_neg hc]; rfl, by rw [List.takeWhile_cons, if_neg hc]; simp, ?_⟩
      intro x s e
      cases e
      simpa using hc

theorem tok_of_view {w : List UInt8} {t : Tk} {r : List UInt8} (h : TokV w t r) : tok (w ++ r) = .ok t := by
  cases h with
  | name c w r hc hw hn hr =>
    have e := takeWhile_all isW (c :: w) r hw hr
    rw [List.cons_append] at e ⊢
    simp only [tok, hc, if_true, e]
    rw [if_neg (by omega)]
  | num c w r hw hn hr =>
    have hc : isD c = true := hw c (by simp)
    have e := takeWhile_all isD (c :: w) r hw (fun x s hx => by
      have := hr x s hx
      simp only [isW, Bool.or_eq_false_iff] at this
      exact this.1.2)
    rw [List.cons_append] at e ⊢
    simp only [tok, isD_notL hc, hc, if_true, e, Bool.false_eq_true, if_false]
    rw [if_neg (by omega), show (c :: (w ++ r)) = (c :: w) ++ r from rfl, List.drop_left]
    cases r with
    | nil => rfl
    | cons x s =>
      have := hr x s rfl
      simp only [isW, Bool.or_eq_false_iff] at this
      simp [this.1.1, this.2]
  | str b r hb hn =>
    have e := takeWhile_all (fun x => !(x == 34 || x == 10)) b (34 :: r) (fun x hx => by simp [hb x hx]) (fun x s hx => by cases hx; rfl)
    have e' : 34 :: (b ++ [34]) ++ r = 34 :: (b ++ 34 :: r) := by simp
    rw [e']
    simp only [tok, show isL 34 = false from rfl, show isD 34 = false from rfl, Bool.false_eq_true, if_false, beq_self_eq_true, if_true, e, List.drop_left]
    rw [if_neg (by decide), if_neg (by omega)]
  | two c r hc =>
    have h1 : isL c = false ∧ isD c = false ∧ (c == 34) = false := by
      simp only [Bool.or_eq_true, beq_iff_eq] at hc
      rcases hc with (rfl | rfl) | rfl <;> exact ⟨rfl, rfl, rfl⟩
    simp [tok, h1.1, h1.2.1, h1.2.2, hc]
  | angle c r hc hr =>
    have h1 : isL c = false ∧ isD c = false ∧ (c == 34) = false ∧ (c == 33 || c == 60 || c == 62) = true ∧ (c == 33) = false := by
      simp only [Bool.or_eq_true, beq_iff_eq] at hc
      rcases hc with rfl | rfl <;> exact ⟨rfl, rfl, rfl, rfl, rfl⟩
    simp only [List.cons_append, List.nil_append, tok, h1.1, h1.2.1, h1.2.2.1, h1.2.2.2.1, if_true, Bool.false_eq_true, if_false]
    split
    · rename_i s
      exact absurd rfl (hr 61 s rfl)
    · rw [h1.2.2.2.2]; rfl
  | sym c r hc =>
    have h1 : isL c = false ∧ isD c = false ∧ (c == 34) = false ∧ (c == 33 || c == 60 || c == 62) = false := by
      simp only [isS, List.contains_iff_mem, List.mem_cons, List.not_mem_nil, or_false] at hc
      rcases hc with rfl | rfl | rfl | rfl | rfl | rfl | rfl | rfl | rfl | rfl | rfl | rfl | rfl <;> exact ⟨rfl, rfl, rfl, rfl⟩
    simp only [List.cons_append, List.nil_append, tok, h1.1, h1.2.1, h1.2.2.1, h1.2.2.2, hc, if_true, Bool.false_eq_true, if_false]

theorem view_of_tok {l : List UInt8} {t : Tk} (h : tok l = .ok t) : ∃ w r, l = w ++ r ∧ TokV w t r := by
  cases l with
  | nil => cases h
  | cons c r =>
    simp only [tok] at h
    by_cases h1 : isL c = true
    · rw [if_pos h1] at h
      split at h
      · cases h
      · rename_i hn
        injection h with h
        obtain ⟨s, e1, e2, e3⟩ := takeWhile_split isW (c :: r)
        rw [List.takeWhile_cons, if_pos (isL_isW h1)] at *
        refine ⟨_, s, e1, ?_⟩
        rw [← h]
        exact .name c _ s h1 e2 (by omega) e3
    · rw [if_neg h1] at h
      by_cases h2 : isD c = true
      · rw [if_pos h2] at h
        split at h
        · cases h
        · rename_i hn
          obtain ⟨s, e1, e2, e3⟩ := takeWhile_split isD (c :: r)
          rw [List.takeWhile_cons, if_pos h2] at *
          rw [e1, List.drop_left] at h
          refine ⟨_, s, e1, ?_⟩
          cases s with
          | nil =>
            simp only [Except.ok.injEq] at h
            rw [← h]
            exact .num c _ [] e2 (by omega) (by simp)
          | cons d s =>
            simp only at h
            split at h
            · cases h
            · rename_i hd
              simp only [Except.ok.injEq] at h
              rw [← h]
              refine .num c _ _ e2 (by omega) ?_
              intro x s' e
              cases e
              have h3 := e3 d s rfl
              simp only [Bool.or_eq_true, not_or, Bool.not_eq_true] at hd
              simp [isW, hd.1, hd.2, h3]
      · rw [if_neg h2] at h
        by_cases h3 : (c == 34) = true
        · rw [if_pos h3] at h
          obtain rfl : c = 34 := by simpa using h3
          obtain ⟨s, e1, e2, e3⟩ := takeWhile_split (fun x => !(x == 34 || x == 10)) r
          generalize hb : r.takeWhile (fun x => !(x == 34 || x == 10)) = b at *
          rw [e1, List.drop_left] at h
          cases s with
          | nil => cases h
          | cons d s =>
            simp only at h
            have h4 := e3 d s rfl
            split at h
            · cases h
            · rename_i h5
              split at h
              · cases h
              · rename_i h6
                have hd : d = 34 := by
                  simp only [Bool.not_eq_false', Bool.or_eq_true, beq_iff_eq] at h4
                  rcases h4 with h4 | h4
                  · exact h4
                  · exact absurd (by simp [h4]) h5
                subst hd
                simp only [Except.ok.injEq] at h
                rw [← h]
                refine ⟨34 :: (b ++ [34]), s, by rw [e1]; simp, .str b s (fun x hx => ?_) (by omega)⟩
                have := e2 x hx
                simpa using this
        · rw [if_neg h3] at h
          by_cases h4 : (c == 33 || c == 60 || c == 62) = true
          · rw [if_pos h4] at h
            split at h
            · rename_i s
              simp only [Except.ok.injEq] at h
              rw [← h]
              exact ⟨[c, 61], s, rfl, .two c s h4⟩
            · rename_i hx
              split at h
              · cases h
              · rename_i h5
                simp only [Except.ok.injEq] at h
                rw [← h]
                refine ⟨[c], r, rfl, .angle c r ?_ ?_⟩
                · simp only [Bool.or_eq_true] at h4 ⊢
                  rcases h4 with (h4 | h4) | h4
                  · exact absurd h4 h5
                  · exact .inl h4
                  · exact .inr h4
                · intro x s e hx'
                  subst hx'
                  exact hx s e
          · rw [if_neg h4] at h
            split at h
            · rename_i h5
              simp only [Except.ok.injEq] at h
              rw [← h]
              exact ⟨[c], r, rfl, .sym c r h5⟩
            · cases h

/-- A token stays what it is where what follows is cut, or begins with a byte that continues nothing. -/
theorem TokV.cut {w : List UInt8} {t : Tk} {a b : List UInt8} (h : TokV w t (a ++ b)) : TokV w t a := by
  cases h with
  | name c w _ hc hw hn hr => exact .name c w a hc hw hn (fun x s e => hr x (s ++ b) (by rw [e]; rfl))
  | num c w _ hw hn hr => exact .num c w a hw hn (fun x s e => hr x (s ++ b) (by rw [e]; rfl))
  | str b' _ hb hn => exact .str b' a hb hn
  | two c _ hc => exact .two c a hc
  | angle c _ hc hr => exact .angle c a hc (fun x s e => hr x (s ++ b) (by rw [e]; rfl))
  | sym c _ hc => exact .sym c a hc
theorem TokV.sep {w : List UInt8} {t : Tk} {r a : List UInt8} (h : TokV w t r) (ha : ∀ x s, a = x :: s → isW x = false ∧ x ≠ 61) : TokV w t a := by
  cases h with
  | name c w _ hc hw hn hr => exact .name c w a hc hw hn (fun x s e => (ha x s e).1)
  | num c w _ hw hn hr => exact .num c w a hw hn (fun x s e => (ha x s e).1)
  | str b' _ hb hn => exact .str b' a hb hn
  | two c _ hc => exact .two c a hc
  | angle c _ hc hr => exact .angle c a hc (fun x s e => (ha x s e).2)
  | sym c _ hc => exact .sym c a hc
/-- A token begins with a byte that begins no gap. -/
theorem TokV.head {c : UInt8} {w : List UInt8} {t : Tk} {r : List UInt8} (h : TokV (c :: w) t r) : isB c = false ∧ (c == 35) = false := by
  have key : ∀ c : UInt8, (isW c = true ∨ c = 34 ∨ c = 33 ∨ c = 60 ∨ c = 62 ∨ isS c = true) → isB c = false ∧ (c == 35) = false := by
    intro c hc
    by_cases h32 : c = 32
    · subst h32; revert hc; decide
    by_cases h9 : c = 9
    · subst h9; revert hc; decide
    by_cases h10 : c = 10
    · subst h10; revert hc; decide
    by_cases h35 : c = 35
    · subst h35; revert hc; decide
    simp [isB, h32, h9, h10, h35]
  apply key
  generalize hl : c :: w = l at h
  cases h with
  | name c' w' _ hc hw hn hr => cases hl; exact .inl (isL_isW hc)
  | num c' w' _ hw hn hr => cases hl; exact .inl (isD_isW (hw c (by simp)))
  | str b' _ hb hn => cases hl; exact .inr (.inl rfl)
  | two c' _ hc =>
    cases hl
    simp only [Bool.or_eq_true, beq_iff_eq] at hc
    rcases hc with (rfl | rfl) | rfl <;> simp
  | angle c' _ hc hr =>
    cases hl
    simp only [Bool.or_eq_true, beq_iff_eq] at hc
    rcases hc with rfl | rfl <;> simp
  | sym c' _ hc => cases hl; simp [hc]

theorem takeWhile_stop (p : UInt8 → Bool) (d : UInt8) (hd : p d = false) : ∀ (a x : List UInt8), (a ++ d :: x).takeWhile p = a.takeWhile p
  | [], x => by simp [hd]
  | c :: a, x => by
    simp only [List.cons_append, List.takeWhile_cons]
    rw [takeWhile_stop p d hd a x]
theorem takeWhile_le (p : UInt8 → Bool) (l : List UInt8) : (l.takeWhile p).length ≤ l.length := (List.takeWhile_sublist p).length_le

/-- A line feed behind it changes nothing, be it a token or an error. -/
theorem tok_line (c : UInt8) (r x : List UInt8) : tok (c :: (r ++ 10 :: x)) = tok (c :: r) := by
  have e1 : (c :: (r ++ 10 :: x)).takeWhile isW = (c :: r).takeWhile isW := takeWhile_stop isW 10 rfl (c :: r) x
  have e2 : (c :: (r ++ 10 :: x)).takeWhile isD = (c :: r).takeWhile isD := takeWhile_stop isD 10 rfl (c :: r) x
  have e3 : (r ++ 10 :: x).takeWhile (fun x => !(x == 34 || x == 10)) = r.takeWhile (fun x => !(x == 34 || x == 10)) := takeWhile_stop _ 10 rfl r x
  have e4 : (c :: (r ++ 10 :: x)).drop ((c :: r).takeWhile isD).length = (c :: r).drop ((c :: r).takeWhile isD).length ++ 10 :: x := by
    rw [← List.cons_append, List.drop_append_of_le_length (takeWhile_le isD (c :: r))]
  have e5 : (r ++ 10 :: x).drop (r.takeWhile (fun x => !(x == 34 || x == 10))).length = r.drop (r.takeWhile (fun x => !(x == 34 || x == 10))).length ++ 10 :: x := by
    rw [List.drop_append_of_le_length (takeWhile_le _ r)]
  simp only [tok, e1, e2, e3, e4, e5]
  split
  · rfl
  · split
    · split
      · rfl
      · cases (c :: r).drop ((c :: r).takeWhile isD).length with
        | nil => rfl
        | cons d s => rfl
    · split
      · cases r.drop (r.takeWhile (fun x => !(x == 34 || x == 10))).length with
        | nil => rfl
        | cons d s => rfl
      · split
        · cases r with
          | nil => simp
          | cons d s =>
          by_cases hd : d = 61
          · subst hd; rfl
          · have key : ∀ s' : List UInt8, (match d :: s' with | 61 :: _ => Except.ok (⟨4, 0, [c, 61], 2⟩ : Tk) | _ => if c == 33 then .error 3 else .ok ⟨4, 0, [c], 1⟩) = if c == 33 then .error 3 else .ok ⟨4, 0, [c], 1⟩ := by
              intro s'
              split
              · rename_i h1; cases h1; exact absurd rfl hd
              · rfl
            exact (key (s ++ 10 :: x)).trans (key s).symm
        · rfl

/-! tokens one after the other, with their offsets -/
inductive LexAt : Nat → List UInt8 → List (Nat × Tk) → Prop
  | done (off : Nat) (g : List UInt8) (b : Bool) (hg : st false g = some b) : LexAt off g []
  | more (off : Nat) (g w r : List UInt8) (t : Tk) (ts : List (Nat × Tk)) (hg : st false g = some false) (hw : TokV w t r) (h : LexAt (off + g.length + w.length) r ts) : LexAt off (g ++ (w ++ r)) ((off + g.length, t) :: ts)
/-- Tokens, and then an error. -/
inductive LexErr : Nat → List UInt8 → Nat → Nat → Nat → Prop
  | here (off : Nat) (g : List UInt8) (c : UInt8) (r : List UInt8) (e : Nat) (hg : st false g = some false) (h1 : isB c = false) (h2 : (c == 35) = false) (he : tok (c :: r) = .error e) : LexErr off (g ++ c :: r) e (off + g.length) 0
  | more (off : Nat) (g w r : List UInt8) (t : Tk) (e at' k : Nat) (hg : st false g = some false) (hw : TokV w t r) (h : LexErr (off + g.length + w.length) r e at' k) : LexErr off (g ++ (w ++ r)) e at' (k + 1)

/-- One step of the reader. -/
theorem lexN_gap {k off n : Nat} {l : List UInt8} (h : gapS false l = []) : lexN (k + 1) off n l = .ok [] := by simp only [lexN, h]
theorem lexN_err {k off n e : Nat} {g r : List UInt8} {c : UInt8} (hg : st false g = some false) (h1 : isB c = false) (h2 : (c == 35) = false) (he : tok (c :: r) = .error e) : lexN (k + 1) off n (g ++ c :: r) = .error (e, off + g.length) := by
  have : gapS false (g ++ c :: r) = c :: r := by rw [st_append _ _ _ _ hg, gapS_here h1 h2]
  simp only [lexN, this, he, List.length_append]
  congr 2
  omega
theorem lexN_tok {k off n : Nat} {g w r : List UInt8} {t : Tk} (hg : st false g = some false) (hw : TokV w t r) : lexN (k + 1) off n (g ++ (w ++ r)) =
    if n = 5000 then .error (2, off + g.length) else match lexN k (off + g.length + w.length) (n + 1) r with
      | .error e => .error e
      | .ok ts => .ok ((off + g.length, t) :: ts) := by
  obtain ⟨h1, h2, h3⟩ := hw.width
  have ht := tok_of_view hw
  cases w with
  | nil => simp at h3
  | cons c w =>
    obtain ⟨h4, h5⟩ := hw.head
    have : gapS false (g ++ (c :: w ++ r)) = c :: (w ++ r) := by rw [List.cons_append, st_append _ _ _ _ hg, gapS_here h4 h5]
    have e : off + ((g ++ (c :: w ++ r)).length - (c :: (w ++ r)).length) = off + g.length := by
      simp only [List.length_append, List.length_cons]
      omega
    rw [List.cons_append] at ht
    have e' : (c :: (w ++ r)).drop (c :: w).length = r := by rw [← List.cons_append, List.drop_left]
    simp only [lexN, this, ht, e, h1, e']

/-- The reader tells tokens, or tokens and an error, or there are too many. -/
theorem lexN_view : ∀ (k off n : Nat) (l : List UInt8), l.length < k → n ≤ 5000 →
    (∃ ts, LexAt off l ts ∧ n + ts.length ≤ 5000 ∧ lexN k off n l = .ok ts) ∨
    (∃ e at' j, LexErr off l e at' j ∧ n + j ≤ 5000 ∧ lexN k off n l = .error (e, at')) ∨
    (∃ at', 5000 - n < l.length ∧ lexN k off n l = .error (2, at'))
  | 0, _, _, _, h, _ => by omega
  | k + 1, off, n, l, h, hn => by
    rcases gap_split false l with ⟨h1, b, h2⟩ | ⟨g, c, r, rfl, h1, h2, h3, h4⟩
    · exact .inl ⟨[], .done off l b h2, by simpa using hn, lexN_gap h1⟩
    · cases ht : tok (c :: r) with
      | error e => exact .inr (.inl ⟨e, _, 0, .here off g c r e h2 h3 h4 ht, by omega, lexN_err h2 h3 h4 ht⟩)
      | ok t =>
        obtain ⟨w, s, e, hv⟩ := view_of_tok ht
        obtain ⟨w1, w2, w3⟩ := hv.width
        rw [e] at h ⊢
        rw [lexN_tok h2 hv]
        have hl : s.length < k := by
          simp only [List.length_append] at h
          omega
        by_cases h5 : n = 5000
        · rw [if_pos h5]
          refine .inr (.inr ⟨_, ?_, rfl⟩)
          simp only [List.length_append]
          omega
        · rw [if_neg h5]
          rcases lexN_view k (off + g.length + w.length) (n + 1) s hl (by omega) with ⟨ts, i1, i2, i3⟩ | ⟨e', a', j, i1, i2, i3⟩ | ⟨a', i1, i2⟩
          · refine .inl ⟨_, .more off g w s t ts h2 hv i1, by simp only [List.length_cons]; omega, by rw [i3]⟩
          · exact .inr (.inl ⟨e', a', j + 1, .more off g w s t e' a' j h2 hv i1, by omega, by rw [i3]⟩)
          · refine .inr (.inr ⟨a', ?_, by rw [i2]⟩)
            simp only [List.length_append]
            omega

theorem lexN_ok {k off n : Nat} {l : List UInt8} {ts : List (Nat × Tk)} (h : LexAt off l ts) (hk : l.length < k) (hn : n + ts.length ≤ 5000) : lexN k off n l = .ok ts := by
  induction h generalizing k n with
  | done off g b hg =>
    obtain ⟨k, rfl⟩ : ∃ m, k = m + 1 := ⟨k - 1, by omega⟩
    exact lexN_gap (gapS_of_st hg)
  | more off g w r t ts hg hw h ih =>
    obtain ⟨k, rfl⟩ : ∃ m, k = m + 1 := ⟨k - 1, by omega⟩
    have := hw.width
    simp only [List.length_append, List.length_cons] at hk hn
    rw [lexN_tok hg hw, if_neg (by omega), ih (by omega) (by omega)]
theorem lexN_bad {k off n e at' j : Nat} {l : List UInt8} (h : LexErr off l e at' j) (hk : l.length < k) (hn : n + j ≤ 5000) : lexN k off n l = .error (e, at') := by
  induction h generalizing k n with
  | here off g c r e hg h1 h2 he =>
    obtain ⟨k, rfl⟩ : ∃ m, k = m + 1 := ⟨k - 1, by omega⟩
    exact lexN_err hg h1 h2 he
  | more off g w r t e a' j hg hw h ih =>
    obtain ⟨k, rfl⟩ : ∃ m, k = m + 1 := ⟨k - 1, by omega⟩
    have := hw.width
    simp only [List.length_append] at hk
    rw [lexN_tok hg hw, if_neg (by omega), ih (by omega) (by omega)]

theorem LexAt.count {off : Nat} {l : List UInt8} {ts : List (Nat × Tk)} (h : LexAt off l ts) : ts.length ≤ l.length := by
  induction h with
  | done => simp
  | more off g w r t ts hg hw h ih =>
    have := hw.width
    simp only [List.length_append, List.length_cons]
    omega
theorem LexErr.count {off e at' j : Nat} {l : List UInt8} (h : LexErr off l e at' j) : j < l.length ∧ off ≤ at' ∧ at' < off + l.length := by
  induction h with
  | here off g c r e hg h1 h2 he => simp only [List.length_append, List.length_cons]; omega
  | more off g w r t e a' j hg hw h ih =>
    have := hw.width
    simp only [List.length_append]
    omega

/-- Of a text of at most 5000 bytes: tokens, or tokens and an error. -/
theorem lex_small (l : List UInt8) (h : l.length ≤ 5000) : (∃ ts, LexAt 0 l ts ∧ lex l = .ok ts) ∨ ∃ e at' j, LexErr 0 l e at' j ∧ lex l = .error (e, at') := by
  rcases lexN_view (l.length + 1) 0 0 l (by omega) (by omega) with ⟨ts, h1, _, h3⟩ | ⟨e, a, j, h1, _, h3⟩ | ⟨a, h1, h2⟩
  · exact .inl ⟨ts, h1, h3⟩
  · exact .inr ⟨e, a, j, h1, h3⟩
  · omega
theorem lex_ok {l : List UInt8} {ts : List (Nat × Tk)} (h : LexAt 0 l ts) (hl : l.length ≤ 5000) : lex l = .ok ts := lexN_ok h (by omega) (by have := h.count; omega)
theorem lex_bad {l : List UInt8} {e at' j : Nat} (h : LexErr 0 l e at' j) (hl : l.length ≤ 5000) : lex l = .error (e, at') := lexN_bad h (by omega) (by have := h.count; omega)

/-! offsets shift -/
def shift (d : Nat) (ts : List (Nat × Tk)) : List (Nat × Tk) := ts.map fun p => (p.1 + d, p.2)
theorem LexAt.shift {off d : Nat} {l : List UInt8} {ts : List (Nat × Tk)} (h : LexAt off l ts) : LexAt (off + d) l (LxP.shift d ts) := by
  induction h with
  | done off g b hg => exact .done _ g b hg
  | more off g w r t ts hg hw h ih =>
    have e : off + g.length + d = off + d + g.length := by omega
    have e' : off + g.length + w.length + d = off + d + g.length + w.length := by omega
    rw [e'] at ih
    simp only [LxP.shift, List.map_cons, e]
    exact .more _ g w r t _ hg hw ih
theorem LexErr.shift {off d e at' j : Nat} {l : List UInt8} (h : LexErr off l e at' j) : LexErr (off + d) l e (at' + d) j := by
  induction h with
  | here off g c r e hg h1 h2 he =>
    have e : off + g.length + d = off + d + g.length := by omega
    rw [e]
    exact .here _ g c r _ hg h1 h2 he
  | more off g w r t e a' j hg hw h ih =>
    have e' : off + g.length + w.length + d = off + d + g.length + w.length := by omega
    rw [e'] at ih
    exact .more _ g w r t _ _ _ hg hw ih

/-! P7.4: a line feed between two texts -/
theorem LexAt.then_ {off : Nat} {l m : List UInt8} {ts us : List (Nat × Tk)} (h : LexAt off l ts) (k : LexAt (off + l.length + 1) m us) : LexAt off (l ++ 10 :: m) (ts ++ us) := by
  induction h with
  | done off g b hg =>
    have h1 := st_line' hg
    generalize ho : off + g.length + 1 = o at k
    have hgl : (g ++ [10]).length = g.length + 1 := by simp
    cases k with
    | done _ g' b' hg' =>
      have : st false (g ++ 10 :: m) = some b' := by
        rw [show g ++ 10 :: m = (g ++ [10]) ++ m by simp, st_st _ _ _ _ h1]; exact hg'
      exact .done _ _ _ this
    | more _ g' w r t us hg' hw k =>
      have e : g ++ 10 :: (g' ++ (w ++ r)) = ((g ++ [10]) ++ g') ++ (w ++ r) := by simp
      have e1 : off + ((g ++ [10]) ++ g').length = o + g'.length := by simp; omega
      rw [e, List.nil_append, ← e1]
      refine .more off _ w r t us ?_ hw ?_
      · rw [st_st _ _ _ _ h1]; exact hg'
      · rw [e1]; exact k
  | more off g w r t ts hg hw h ih =>
    have e : g ++ (w ++ r) ++ 10 :: m = g ++ (w ++ (r ++ 10 :: m)) := by simp
    rw [e, List.cons_append]
    refine .more off g w _ t _ hg ?_ (ih ?_)
    · cases r with
      | nil => exact hw.sep (fun x s e => by cases e; decide)
      | cons c r =>
        have := tok_line
        revert hw
        intro hw
        cases hw with
        | name c' w' _ hc hw' hn hr => exact .name c' w' _ hc hw' hn (fun x s e => by cases e; exact hr c r rfl)
        | num c' w' _ hw' hn hr => exact .num c' w' _ hw' hn (fun x s e => by cases e; exact hr c r rfl)
        | str b' _ hb hn => exact .str b' _ hb hn
        | two c' _ hc => exact .two c' _ hc
        | angle c' _ hc hr => exact .angle c' _ hc (fun x s e => by cases e; exact hr c r rfl)
        | sym c' _ hc => exact .sym c' _ hc
    · have : off + g.length + w.length + r.length + 1 = off + (g ++ (w ++ r)).length + 1 := by simp; omega
      rw [this]; exact k
/-- What begins alike goes on alike: a token whose follower's head does not change. -/
theorem TokV.same {w : List UInt8} {t : Tk} {c : UInt8} {r s : List UInt8} (h : TokV w t (c :: r)) : TokV w t (c :: s) := by
  cases h with
  | name c' w' _ hc hw' hn hr => exact .name c' w' _ hc hw' hn (fun x _ e => by cases e; exact hr c r rfl)
  | num c' w' _ hw' hn hr => exact .num c' w' _ hw' hn (fun x _ e => by cases e; exact hr c r rfl)
  | str b' _ hb hn => exact .str b' _ hb hn
  | two c' _ hc => exact .two c' _ hc
  | angle c' _ hc hr => exact .angle c' _ hc (fun x _ e => by cases e; exact hr c r rfl)
  | sym c' _ hc => exact .sym c' _ hc
theorem TokV.line {w : List UInt8} {t : Tk} {r : List UInt8} (h : TokV w t r) (m : List UInt8) : TokV w t (r ++ 10 :: m) := by
  cases r with
  | nil => exact h.sep (fun x s e => by cases e; decide)
  | cons c r => exact h.same
theorem LexErr.then_ {off e at' j : Nat} {l : List UInt8} (h : LexErr off l e at' j) (m : List UInt8) : LexErr off (l ++ 10 :: m) e at' j := by
  induction h with
  | here off g c r e hg h1 h2 he =>
    have e' : g ++ c :: r ++ 10 :: m = g ++ c :: (r ++ 10 :: m) := by simp
    rw [e']
    exact .here off g c _ e hg h1 h2 (by rw [tok_line]; exact he)
  | more off g w r t e a' j hg hw h ih =>
    have e' : g ++ (w ++ r) ++ 10 :: m = g ++ (w ++ (r ++ 10 :: m)) := by simp
    rw [e']
    exact .more off g w _ t _ _ _ hg (hw.line m) ih
theorem LexAt.bad {off e at' j : Nat} {l m : List UInt8} {ts : List (Nat × Tk)} (h : LexAt off l ts) (k : LexErr (off + l.length + 1) m e at' j) : LexErr off (l ++ 10 :: m) e at' (ts.length + j) := by
  induction h with
  | done off g b hg =>
    have h1 := st_line' hg
    generalize ho : off + g.length + 1 = o at k
    rw [List.length_nil, Nat.zero_add]
    cases k with
    | here _ g' c r e hg' h2 h3 he =>
      have e0 : g ++ 10 :: (g' ++ c :: r) = ((g ++ [10]) ++ g') ++ c :: r := by simp
      have e1 : off + ((g ++ [10]) ++ g').length = o + g'.length := by simp; omega
      rw [e0, ← e1]
      exact .here off _ c r e (by rw [st_st _ _ _ _ h1]; exact hg') h2 h3 he
    | more _ g' w r t e a' j hg' hw k =>
      have e0 : g ++ 10 :: (g' ++ (w ++ r)) = ((g ++ [10]) ++ g') ++ (w ++ r) := by simp
      have e1 : off + ((g ++ [10]) ++ g').length = o + g'.length := by simp; omega
      rw [e0]
      refine .more off _ w r t _ _ _ ?_ hw ?_
      · rw [st_st _ _ _ _ h1]; exact hg'
      · rw [e1]; exact k
  | more off g w r t ts hg hw h ih =>
    have e' : g ++ (w ++ r) ++ 10 :: m = g ++ (w ++ (r ++ 10 :: m)) := by simp
    rw [e', List.length_cons, Nat.add_right_comm]
    refine .more off g w _ t _ _ _ hg (hw.line m) (ih ?_)
    have : off + g.length + w.length + r.length + 1 = off + (g ++ (w ++ r)).length + 1 := by simp; omega
    rw [this]; exact k

/-! P7.5: the text before an error, and from there on -/
theorem LexErr.before {off e at' j : Nat} {l : List UInt8} (h : LexErr off l e at' j) : (∃ ts, LexAt off (l.take (at' - off)) ts) ∧ LexErr at' (l.drop (at' - off)) e at' 0 := by
  induction h with
  | here off g c r e hg h1 h2 he =>
    have : off + g.length - off = g.length := by omega
    rw [this, List.take_left, List.drop_left]
    refine ⟨⟨[], .done off g false hg⟩, ?_⟩
    have := LexErr.here (off + g.length) [] c r e rfl h1 h2 he
    simpa using this
  | more off g w r t e a' j hg hw h ih =>
    obtain ⟨⟨ts, i1⟩, i2⟩ := ih
    have hc := h.count
    have e1 : a' - off = g.length + (w.length + (a' - (off + g.length + w.length))) := by omega
    rw [e1, List.take_append, List.take_of_length_le (by omega), List.drop_append, List.drop_eq_nil_of_le (by omega), List.nil_append,
      show g.length + (w.length + (a' - (off + g.length + w.length))) - g.length = w.length + (a' - (off + g.length + w.length)) by omega,
      List.take_append, List.take_of_length_le (by omega), List.drop_append, List.drop_eq_nil_of_le (by omega), List.nil_append,
      show w.length + (a' - (off + g.length + w.length)) - w.length = a' - (off + g.length + w.length) by omega]
    refine ⟨⟨_, .more off g w _ t ts hg ?_ i1⟩, i2⟩
    have := List.take_append_drop (a' - (off + g.length + w.length)) r
    rw [← this] at hw
    exact hw.cut

/-! P7.3: the tokens with a blank after each -/
def all : List (Nat × Tk) → List UInt8
  | [] => []
  | p :: ts => written p.2 ++ 32 :: all ts
theorem LexAt.again {off : Nat} {l : List UInt8} {ts : List (Nat × Tk)} (h : LexAt off l ts) : ∀ o, ∃ us, LexAt o (all ts) us ∧ us.map (·.2) = ts.map (·.2) ∧
    ∃ us', LexAt o (32 :: all ts) us' ∧ us'.map (·.2) = ts.map (·.2) := by
  induction h with
  | done off g b hg => exact fun o => ⟨[], .done o [] false rfl, rfl, [], .done o [32] false rfl, rfl⟩
  | more off g w r t ts hg hw h ih =>
    intro o
    have hv : ∀ x, TokV w t (32 :: x) := fun x => hw.sep (fun y s e => by cases e; decide)
    obtain ⟨us, _, _, us', i1, i2⟩ := ih (o + w.length)
    obtain ⟨us2, _, _, us2', j1, j2⟩ := ih (o + 1 + w.length)
    have hw' := hw.width.2.1
    refine ⟨(o + ([] : List UInt8).length, t) :: us', ?_, by simp [i2], (o + [(32 : UInt8)].length, t) :: us2', ?_, by simp [j2]⟩
    · have := LexAt.more o [] w (32 :: all ts) t us' rfl (hv _) (by simpa using i1)
      simp only [all, ← hw']
      exact this
    · have := LexAt.more o [32] w (32 :: all ts) t us2' rfl (hv _) (by simpa using j1)
      simp only [all, ← hw']
      exact this

/-! P7.6: further gaps -/
/-- A gap with a line feed behind it, ahead of a text. -/
theorem LexAt.ahead {g : List UInt8} {b : Bool} (hg : st false g = some b) {off : Nat} {l : List UInt8} {ts : List (Nat × Tk)} (h : LexAt (off + g.length + 1) l ts) : LexAt off (g ++ 10 :: l) ts := (LexAt.done off g b hg).then_ h
theorem LexAt.rebase {off : Nat} {l : List UInt8} {ts : List (Nat × Tk)} (h : LexAt off l ts) : ∀ o, ∃ us, LexAt o l us ∧ us.map (·.2) = ts.map (·.2) := by
  induction h with
  | done off g b hg => exact fun o => ⟨[], .done o g b hg, rfl⟩
  | more off g w r t ts hg hw h ih =>
    intro o
    obtain ⟨us, i1, i2⟩ := ih (o + g.length + w.length)
    exact ⟨_, .more o g w r t us hg hw i1, by simp [i2]⟩
theorem gap_head {g : List UInt8} {b : Bool} (hg : st false g = some b) (r : List UInt8) : ∀ x s, g ++ 10 :: r = x :: s → isW x = false ∧ x ≠ 61 := by
  have key : ∀ c : UInt8, (isB c = true ∨ (c == 35) = true) → isW c = false ∧ c ≠ 61 := by
    intro c hc
    simp only [isB, Bool.or_eq_true, beq_iff_eq] at hc
    rcases hc with ((rfl | rfl) | rfl) | rfl <;> exact ⟨by decide, by decide⟩
  intro x s e
  cases g with
  | nil => cases e; exact ⟨by decide, by decide⟩
  | cons c g =>
    cases e
    simp only [st] at hg
    split at hg
    · rename_i h1; exact key _ (.inl h1)
    · split at hg
      · rename_i h2; exact key _ (.inr h2)
      · cases hg
/-- .. and behind one of its tokens (the k-th). -/
theorem LexAt.inside {g : List UInt8} {b : Bool} (hg : st false g = some b) {off : Nat} {l : List UInt8} {ts : List (Nat × Tk)} (h : LexAt off l ts) : ∀ (k : Nat) (p : Nat × Tk), ts[k]? = some p → ∀ o,
    off ≤ p.1 ∧ 0 < p.2.width ∧ p.1 + p.2.width ≤ off + l.length ∧ ∃ us, LexAt o (l.take (p.1 + p.2.width - off) ++ (g ++ 10 :: l.drop (p.1 + p.2.width - off))) us ∧ us.map (·.2) = ts.map (·.2) := by
  induction h with
  | done off g' b' hg' => intro k p hp; simp at hp
  | more off g' w r t ts hg' hw h ih =>
    intro k p hp o
    obtain ⟨w1, w2, w3⟩ := hw.width
    cases k with
    | zero =>
      simp only [List.getElem?_cons_zero, Option.some.injEq] at hp
      subst hp
      simp only
      refine ⟨by omega, by omega, by simp only [List.length_append]; omega, ?_⟩
      have e1 : off + g'.length + t.width - off = (g' ++ w).length := by simp only [List.length_append]; omega
      rw [e1, show g' ++ (w ++ r) = (g' ++ w) ++ r by simp, List.take_left, List.drop_left, List.append_assoc]
      obtain ⟨us, i1, i2⟩ := h.rebase (o + g'.length + w.length + g.length + 1)
      exact ⟨_, .more o g' w _ t us hg' (hw.sep (gap_head hg r)) (i1.ahead hg), by simp [i2]⟩
    | succ k =>
      simp only [List.getElem?_cons_succ] at hp
      obtain ⟨i1, i2, i3, us, i4, i5⟩ := ih k p hp (o + g'.length + w.length)
      refine ⟨by omega, i2, by simp only [List.length_append]; omega, ?_⟩
      have e1 : p.1 + p.2.width - off = (g' ++ w).length + (p.1 + p.2.width - (off + g'.length + w.length)) := by simp only [List.length_append]; omega
      rw [e1, show g' ++ (w ++ r) = (g' ++ w) ++ r by simp, List.take_length_add_append, List.drop_length_add_append, List.append_assoc, List.append_assoc]
      refine ⟨_, .more o g' w _ t us hg' ?_ i4, by simp [i5]⟩
      obtain ⟨n, hn⟩ : ∃ n, p.1 + p.2.width - (off + g'.length + w.length) = n + 1 := ⟨p.1 + p.2.width - (off + g'.length + w.length) - 1, by omega⟩
      rw [hn]
      cases r with
      | nil => simp at i3; omega
      | cons c r => exact hw.same

/-! P7.7: two tokens that follow each other directly -/
theorem LexAt.pair {off : Nat} {l : List UInt8} {ts : List (Nat × Tk)} (h : LexAt off l ts) : ∀ (k : Nat) (p q : Nat × Tk), ts[k]? = some p → ts[k + 1]? = some q → p.1 + p.2.width = q.1 →
    ∃ us, LexAt 0 (written p.2 ++ written q.2) us ∧ us.length = 2 := by
  induction h with
  | done off g b hg => intro k p q hp; simp at hp
  | more off g w r t ts hg hw h ih =>
    intro k p q hp hq e
    cases k with
    | succ k => exact ih k p q (by simpa using hp) (by simpa using hq) e
    | zero =>
      simp only [List.getElem?_cons_zero, Option.some.injEq] at hp
      subst hp
      simp only at e
      cases h with
      | done _ g' b' hg' => simp at hq
      | more _ g' w' r' t' ts' hg' hw' h' =>
        simp only [List.getElem?_cons_succ, List.getElem?_cons_zero, Option.some.injEq] at hq
        subst hq
        simp only at e
        have h1 := hw.width
        have h2 := hw'.width
        obtain rfl : g' = [] := List.eq_nil_of_length_eq_zero (by omega)
        rw [← h1.2.1, ← h2.2.1]
        have hc : TokV w t w' := by
          have : TokV w t (w' ++ r') := by simpa using hw
          exact this.cut
        have hc' : TokV w' t' [] := (show TokV w' t' ([] ++ r') from hw').cut
        have d : LexAt (0 + ([] : List UInt8).length + w.length) w' [(0 + ([] : List UInt8).length + w.length + ([] : List UInt8).length, t')] := by
          have := LexAt.more (0 + ([] : List UInt8).length + w.length) [] w' [] t' [] rfl hc' (.done _ [] false rfl)
          simpa using this
        exact ⟨_, by simpa using LexAt.more 0 [] w w' t _ rfl hc d, rfl⟩

/-! P7.2: places -/
theorem LexAt.places {off : Nat} {l : List UInt8} {ts : List (Nat × Tk)} (h : LexAt off l ts) : ts = [] ∧ (∃ b, st false l = some b) ∨
    ∃ p us r, ts = p :: us ∧ off ≤ p.1 ∧ st false (l.take (p.1 - off)) = some false ∧ 0 < p.2.width ∧ p.1 + p.2.width ≤ off + l.length ∧ (written p.2).length = p.2.width ∧
      (l.drop (p.1 - off)).take p.2.width = written p.2 ∧ r = l.drop (p.1 + p.2.width - off) ∧ LexAt (p.1 + p.2.width) r us := by
  cases h with
  | done _ g b hg => exact .inl ⟨rfl, b, hg⟩
  | more _ g w r t ts hg hw h =>
    obtain ⟨w1, w2, w3⟩ := hw.width
    refine .inr ⟨_, ts, r, rfl, ?_⟩
    simp only
    have e : off + g.length - off = g.length := by omega
    have e1 : off + g.length + t.width - off = (g ++ w).length := by simp only [List.length_append]; omega
    rw [e, List.take_left, List.drop_left, e1, ← List.append_assoc, List.drop_left, w1, List.take_left, ← w2]
    exact ⟨by omega, hg, w3, by simp only [List.length_append]; omega, rfl, rfl, rfl, h⟩

end Go.Proofs.YtgddmfphlhlcjaaDoor.LxP
namespace Go.Proofs.YtgddmfphlhlcjaaDoor.LxW
open Go.RowKit Go.Proofs.YtgddmfphlhlcjaaDoorW.PrintWords Go.Proofs.YtgddmfphlhlcjaaDoorW.PrintLast Go.Proofs.YtgddmfphlhlcjaaDoorW.PrintMore
open Go.Proofs.YtgddmfphlhlcjaaDoor Go.Proofs.YtgddmfphlhlcjaaDoor.LxP
set_option linter.unusedVariables false
set_option linter.unusedSimpArgs false

/-- The class of a byte. -/
def cls (c : UInt8) : Nat := if isL c then 3 else if isD c then 4 else if c == 95 then 5 else if isB c then 1 else if c == 35 then 2 else if c == 34 then 6 else if c == 33 then 7 else if c == 60 || c == 62 then 8 else if isS c then 9 else 0

theorem ret_int {k : IntKind} {a b : Int} (h : a = b) : Ending.returned (.int k a) = .returned (.int k b) := by rw [h]
/-- A scanner over a text lies in block g. -/
def Scan (w : World) (g : Nat) (s : ByteArray) : Prop := w.cell? ⟨g, 0, none⟩ = some (.string s) ∧ ∀ c : UInt8, w.cell? ⟨g, 1 + c.toNat, none⟩ = some (.int .i64 (cls c))
theorem Scan.below {w w1 : World} {g : Nat} {s : ByteArray} (h : Scan w g s) (hb : Below w.heap.size w w1) : Scan w1 g s := ⟨pw_cell_below hb h.1, fun c => pw_cell_below hb (h.2 c)⟩
theorem Scan.drewN {w : World} {g : Nat} {s : ByteArray} (h : Scan w g s) (n : Nat) : Scan (w.drewN n) g s := h

/-- The class at an offset; 0 behind the end. -/
def atN (s : ByteArray) (i : Nat) : Nat := if h : i < s.size then cls (s[i]'h) else 0

set_option maxHeartbeats 400000 in
theorem at_out (g : Nat) (s : ByteArray) (i : Nat) (w : World) (hs : s.size ≤ 9223372036854775807) (hg : Scan w g s) (hi : ¬ i < s.size) :
    Calls Tryd.prog 50 #[.pointer (some ⟨g, 0, none⟩), .int .i64 i] w fun e w' => e = .returned (.int .i64 0) ∧ ∃ n, w' = w.drewN n := by
  have h0 := hg.1
  clear hg
  have hd : decide (s.size ≤ i) = true := decide_eq_true (by omega)
  have hd2 : decide ((s.size : Int) ≤ (i : Int)) = true := decide_eq_true (by omega)
  clear hi
  go_enter Tryd.func50, Tryd.ntmps50
  go_wp2
  go_ret
  exact ⟨rfl, 0, rfl⟩

set_option maxHeartbeats 400000 in
theorem at_in (g : Nat) (s : ByteArray) (i : Nat) (w : World) (hs : s.size ≤ 9223372036854775807) (hg : Scan w g s) (hi : i < s.size) :
    Calls Tryd.prog 50 #[.pointer (some ⟨g, 0, none⟩), .int .i64 i] w fun e w' => e = .returned (.int .i64 (cls (s[i]'hi))) ∧ ∃ n, w' = w.drewN n := by
  have h0 := hg.1
  obtain ⟨x, hx⟩ : ∃ x : UInt8, s[i]'hi = x := ⟨_, rfl⟩
  have h1 := hg.2 x
  clear hg
  have hd : decide (s.size ≤ i) = false := decide_eq_false (by omega)
  have hd2 : decide ((s.size : Int) ≤ (i : Int)) = false := decide_eq_false (by omega)
  have hi0 : (0 : Int) ≤ (i : Int) := by omega
  have hi1 : (i : Int) < (s.size : Int) := by omega
  have hx0 : (x.toNat : Int) < 256 := by have := x.toNat_lt; omega
  go_enter Tryd.func50, Tryd.ntmps50
  go_wp2
  go_quiet (fail)
  go_wp2
  go_ret
  exact ⟨by rw [hx]; rfl, _, rfl⟩

theorem at_any (g : Nat) (s : ByteArray) (i : Nat) (w : World) (hs : s.size ≤ 9223372036854775807) (hg : Scan w g s) :
    Calls Tryd.prog 50 #[.pointer (some ⟨g, 0, none⟩), .int .i64 i] w fun e w' => e = .returned (.int .i64 (atN s i)) ∧ ∃ n, w' = w.drewN n := by
  unfold atN
  by_cases hi : i < s.size
  · rw [dif_pos hi]; exact at_in g s i w hs hg hi
  · rw [dif_neg hi]; exact at_out g s i w hs hg hi

/-- How many bytes from an offset on have classes of a list. -/
def runN (cl : List Int) : List UInt8 → Nat
  | [] => 0
  | c :: r => if cl.contains (cls c : Int) then runN cl r + 1 else 0
def rest (s : ByteArray) (i : Nat) : List UInt8 := s.data.toList.drop i
theorem rest_cons (s : ByteArray) (i : Nat) (h : i < s.size) : rest s i = s[i] :: rest s (i + 1) := by
  unfold rest
  rw [List.drop_eq_getElem_cons (by rw [data_length]; exact h)]
  rfl
theorem rest_nil (s : ByteArray) (i : Nat) (h : ¬ i < s.size) : rest s i = [] := List.drop_eq_nil_of_le (by rw [data_length]; omega)
theorem rest_length (s : ByteArray) (i : Nat) : (rest s i).length = s.size - i := by unfold rest; rw [List.length_drop, data_length]
theorem runN_yes {cl : List Int} {c : UInt8} {r : List UInt8} (h : cl.contains (cls c : Int) = true) : runN cl (c :: r) = runN cl r + 1 := by simp only [runN]; rw [if_pos h]
theorem runN_no {cl : List Int} {c : UInt8} {r : List UInt8} (h : cl.contains (cls c : Int) = false) : runN cl (c :: r) = 0 := by simp only [runN]; rw [if_neg (by rw [h]; decide)]
theorem runN_le (cl : List Int) : ∀ l, runN cl l ≤ l.length
  | [] => Nat.le_refl _
  | c :: r => by
    unfold runN
    have := runN_le cl r
    split
    · simp only [List.length_cons]; omega
    · omega

/-- A row of classes lies in block b. -/
def Cls (w : World) (b : Nat) (cl : List Int) : Prop := ∀ j, j < cl.length → w.cell? ⟨b, 0 + j, none⟩ = some (.int .i64 (cl.getD j 0))
theorem Cls.drewN {w : World} {b : Nat} {cl : List Int} (h : Cls w b cl) (n : Nat) : Cls (w.drewN n) b cl := h
theorem Cls.below {w w1 : World} {b : Nat} {cl : List Int} (h : Cls w b cl) (hb : Below w.heap.size w w1) : Cls w1 b cl := fun j hj => pw_cell_below hb (h j hj)
theorem contains_any (b c : Nat) (cl : List Int) (x : Int) (w : World) (hb : cl.length ≤ 9223372036854775807) (hc : Cls w b cl) :
    Calls Tryd.prog 58 #[.slice (some ⟨b, 0, none⟩) cl.length c, .int .i64 x] w fun e w' => e = .returned (.bool (cl.contains x)) ∧ w = w' := by
  refine (Tryd.slices_Contains_int b 0 cl.length c cl x w (Nat.le_refl _) hb hc).mono ?_
  rintro e w' ⟨rfl, rfl⟩
  rw [List.take_length]
  exact ⟨rfl, rfl⟩

set_option maxHeartbeats 1000000 in
theorem while_any (g : Nat) (s : ByteArray) (i b c : Nat) (cl : List Int) (w : World) (hs : s.size ≤ 9223372036854775806) (hg : Scan w g s) (hb : cl.length ≤ 9223372036854775807) (hc : Cls w b cl) (hi : i ≤ s.size) :
    Calls Tryd.prog 49 #[.pointer (some ⟨g, 0, none⟩), .int .i64 i, .slice (some ⟨b, 0, none⟩) cl.length c] w fun e w' => e = .returned (.int .i64 ((i + runN cl (rest s i) : Nat) : Int)) ∧ ∃ n, w' = w.drewN n := by
  have h0 := hg.1
  have HG := Lib.hid hg
  have HC := Lib.hid hc
  clear hg hc
  go_enter Tryd.func49, Tryd.ntmps49
  go_wp2_with fail
  go_loopw [1] (fun v wr => ∃ (j n : Nat), j ≤ s.size ∧ v = .int .i64 j ∧ wr = w.drewN n ∧ Aside0 (j + runN cl (rest s j) = i + runN cl (rest s i))) (fun v _ => s.size - (intOf v).toNat)
  case atStart => exact ⟨i, 0, hi, rfl, rfl, ⟨rfl⟩⟩
  case round =>
    obtain ⟨j, n, hj, rfl, rfl, HE⟩ := hrel
    by_cases hlt : j < s.size
    · have hx := rest_cons s j hlt
      have hd : decide (j < s.size) = true := decide_eq_true hlt
      have hd2 : decide ((j : Int) < (s.size : Int)) = true := decide_eq_true (by omega)
      obtain ⟨x, hxe⟩ : ∃ x : UInt8, s[j]'hlt = x := ⟨_, rfl⟩
      rw [hxe] at hx
      have HX := Lib.hid hx
      clear hx
      have HXE := Lib.hid hxe
      clear hxe
      by_cases hcx : cl.contains (cls x : Int) = true
      · have HCX := Lib.hid hcx
        clear hcx
        go_wp2_with (first
          | (go_at_call 50; refine (at_in g s j _ (by omega) (HG.out.drewN n) hlt).mono ?_; rintro e w' ⟨rfl, m, rfl⟩; rw [HXE.out])
          | (go_at_call 58; refine (contains_any b c cl (cls x) _ hb (by exact HC.out.drewN _)).mono ?_; rintro e w' ⟨rfl, rfl⟩; rw [HCX.out]))
        go_roundw
        case rel => exact ⟨j + 1, _, by omega, by go_num, rfl, ⟨by have h1 := HE.out; rw [HX.out] at h1; rw [runN_yes HCX.out] at h1; omega⟩⟩
        case measure => simp [intOf]; omega
      · have HCX := Lib.hid (by simpa using hcx : cl.contains (cls x : Int) = false)
        clear hcx
        go_wp2_with (first
          | (go_at_call 50; refine (at_in g s j _ (by omega) (HG.out.drewN n) hlt).mono ?_; rintro e w' ⟨rfl, m, rfl⟩; rw [HXE.out])
          | (go_at_call 58; refine (contains_any b c cl (cls x) _ hb (by exact HC.out.drewN _)).mono ?_; rintro e w' ⟨rfl, rfl⟩; rw [HCX.out]))
        go_ret
        refine ⟨?_, _, rfl⟩
        have h1 := HE.out
        rw [HX.out] at h1
        rw [runN_no HCX.out] at h1
        exact ret_int (by omega)
    · have hd : decide (j < s.size) = false := decide_eq_false hlt
      have hd2 : decide ((j : Int) < (s.size : Int)) = false := decide_eq_false (by omega)
      go_wp2
      go_ret
      refine ⟨?_, _, rfl⟩
      have h1 := HE.out
      rw [rest_nil s j hlt] at h1
      exact ret_int (by simp [runN] at h1; omega)
end Go.Proofs.YtgddmfphlhlcjaaDoor.LxW
