/- The canonical texts of domains and cases are read back; the order of the values of a case does not matter.
What the reader of cases answers fits; canonical texts of cases, also of the reversed case; the next case.
fact.isName tells whether a text is a name.
Small laws on maps that a call makes for itself. -/
import Derived.Test.YtgddmfphlhlcjaaDoorMg6
import Derived.Test.YtgddmfphlhlcjaaDoorMg1
import Derived.Maps.Own
import Derived.Maps.OwnSet
import Derived.Maps.OwnOps
import Derived.Maps.Views
namespace Go.Proofs.YtgddmfphlhlcjaaDoor.FcP
open Go.Proofs.YtgddmfphlhlcjaaDoor.LxP
set_option linter.unusedVariables false
set_option linter.unusedSimpArgs false

/-! decimal digits -/
theorem digit_byte : ∀ n : Fin 10, isD (UInt8.ofNat (48 + n.1)) = true ∧ (UInt8.ofNat (48 + n.1)).toNat = 48 + n.1 := by decide
theorem val_snoc (w : List UInt8) (c : UInt8) : val (w ++ [c]) = 10 * val w + (c.toNat - 48) := by simp [val, List.foldl_append]
theorem decN_ok : ∀ (k n : Nat), n < 10 ^ (k + 1) → (∀ x ∈ decN k n, isD x = true) ∧ 0 < (decN k n).length ∧ val (decN k n) = n
  | 0, n, h => by
    have hn : n < 10 := by simpa using h
    have hm : n % 10 = n := Nat.mod_eq_of_lt hn
    obtain ⟨d1, d2⟩ := digit_byte ⟨n, hn⟩
    simp only [decN, hm]
    refine ⟨by simpa using d1, by simp, ?_⟩
    have := val_snoc [] (UInt8.ofNat (48 + n))
    rw [List.nil_append, d2] at this
    rw [this]
    simp [val]
  | k + 1, n, h => by
    simp only [decN]
    by_cases hn : n < 10
    · obtain ⟨d1, d2⟩ := digit_byte ⟨n, hn⟩
      rw [if_pos hn]
      refine ⟨by simpa using d1, by simp, ?_⟩
      have := val_snoc [] (UInt8.ofNat (48 + n))
      rw [List.nil_append, d2] at this
      rw [this]
      simp [val]
    · rw [if_neg hn]
      have hk : n / 10 < 10 ^ (k + 1) := by
        rw [Nat.pow_succ] at h
        omega
      obtain ⟨i1, i2, i3⟩ := decN_ok k (n / 10) hk
      obtain ⟨d1, d2⟩ := digit_byte ⟨n % 10, Nat.mod_lt _ (by decide)⟩
      refine ⟨?_, by simp, ?_⟩
      · intro x hx
        rcases List.mem_append.1 hx with hx | hx
        · exact i1 x hx
        · rw [List.mem_singleton.1 hx]; exact d1
      · have d2' : (UInt8.ofNat (48 + n % 10)).toNat = 48 + n % 10 := d2
        rw [val_snoc, i3, d2']
        omega
theorem decN_length : ∀ (m k n : Nat), n < 10 ^ (m + 1) → m ≤ k → (decN k n).length ≤ m + 1
  | m, 0, n, h, hk => by simp [decN]
  | 0, k + 1, n, h, hk => by
    have hn : n < 10 := by simpa using h
    simp [decN, hn]
  | m + 1, k + 1, n, h, hk => by
    simp only [decN]
    by_cases hn : n < 10
    · rw [if_pos hn]; simp
    · rw [if_neg hn]
      have := decN_length m k (n / 10) (by rw [Nat.pow_succ] at h; omega) (by omega)
      rw [List.length_append, List.length_singleton]
      omega
theorem dec_ok (n : Nat) (h : n ≤ 1000000) : (∀ x ∈ dec n, isD x = true) ∧ 0 < (dec n).length ∧ val (dec n) = n ∧ (dec n).length ≤ 7 := by
  have hb : (10 : Nat) ^ (20 + 1) = 1000000000000000000000 := by decide
  have hc : (10 : Nat) ^ (6 + 1) = 10000000 := by decide
  obtain ⟨h1, h2, h3⟩ := decN_ok 20 n (by omega)
  exact ⟨h1, h2, h3, decN_length 6 20 n (by omega) (by decide)⟩

/-! tokens of canonical texts -/
def LexAs (l : List UInt8) (tk : List Tk) : Prop := ∀ off, ∃ ts, LexAt off l ts ∧ ts.map (·.2) = tk
theorem LexAs.nil : LexAs [] [] := fun off => ⟨[], .done off [] false rfl, rfl⟩
theorem LexAs.cons {g w r : List UInt8} {t : Tk} {tk : List Tk} (hg : st false g = some false) (hw : TokV w t r) (h : LexAs r tk) : LexAs (g ++ (w ++ r)) (t :: tk) := fun off => by
  obtain ⟨ts, h1, h2⟩ := h (off + g.length + w.length)
  exact ⟨_, .more off g w r t ts hg hw h1, by simp [h2]⟩
theorem LexAs.line {r : List UInt8} {tk : List Tk} (h : LexAs r tk) : LexAs (10 :: r) tk := fun off => by
  obtain ⟨ts, h1, h2⟩ := h (off + 1)
  exact ⟨ts, LexAt.ahead (g := []) (b := false) rfl h1, h2⟩
theorem LexAs.sp {w r : List UInt8} {t : Tk} {tk : List Tk} (hw : TokV w t r) (h : LexAs r tk) : LexAs (32 :: (w ++ r)) (t :: tk) := LexAs.cons (g := [32]) rfl hw h
theorem LexAs.tk {w r : List UInt8} {t : Tk} {tk : List Tk} (hw : TokV w t r) (h : LexAs r tk) : LexAs (w ++ r) (t :: tk) := LexAs.cons (g := []) rfl hw h

def tkN (w : List UInt8) : Tk := ⟨1, 0, w, w.length⟩
def tkD (n : Nat) : Tk := ⟨2, n, dec n, (dec n).length⟩
def tkS (c : UInt8) : Tk := ⟨4, 0, [c], 1⟩
theorem name_tok {s : List UInt8} (h : nameOk s = true) (r : List UInt8) (hr : ∀ x t, r = x :: t → isW x = false) : TokV s (tkN s) r := by
  cases s with
  | nil => simp [nameOk] at h
  | cons c w =>
    simp only [nameOk, Bool.and_eq_true, List.all_eq_true, decide_eq_true_eq] at h
    exact .name c w r h.1.1 h.1.2 h.2 hr
theorem dec_tok (n : Nat) (hn : n ≤ 1000000) (r : List UInt8) (hr : ∀ x t, r = x :: t → isW x = false) : TokV (dec n) (tkD n) r := by
  obtain ⟨h1, h2, h3, h4⟩ := dec_ok n hn
  unfold tkD
  cases hd : dec n with
  | nil => rw [hd] at h2; simp at h2
  | cons c w =>
    rw [hd] at h1 h3 h4
    have := TokV.num c w r h1 (by omega) hr
    rw [h3] at this
    exact this
theorem cut (c : UInt8) (l : List UInt8) (h : isW c = false) : ∀ x t, c :: l = x :: t → isW x = false := by
  intro x t e
  injection e with e1 e2
  rw [← e1]; exact h

def lineTk (f : Fc) : List Tk := tkN f.name :: (if f.kind = 1 then [tkN flagW, tkS 59] else [tkN numW, tkD f.lo.toNat, tkN toW, tkD f.hi.toNat, tkS 59])
theorem fact_cases {f : Fc} (h : factOk f = true) : nameOk f.name = true ∧ (f.kind = 1 ∧ f.lo = 0 ∧ f.hi = 1 ∨ f.kind = 2 ∧ 0 ≤ f.lo ∧ f.lo ≤ f.hi ∧ f.hi ≤ 1000000) := by
  simp only [factOk, Bool.and_eq_true, Bool.or_eq_true, beq_iff_eq, decide_eq_true_eq] at h
  refine ⟨h.2, ?_⟩
  rcases h.1 with h | h
  · exact .inl ⟨h.1.1, h.1.2, h.2⟩
  · exact .inr ⟨h.1.1.1, h.1.1.2, h.1.2, h.2⟩
theorem line_lex {f : Fc} (hf : factOk f = true) {r : List UInt8} {tk : List Tk} (h : LexAs r tk) : LexAs (line f ++ r) (lineTk f ++ tk) := by
  obtain ⟨hn, hk⟩ := fact_cases hf
  have end_ : LexAs ([59] ++ 10 :: r) (tkS 59 :: tk) := LexAs.tk (.sym 59 _ rfl) h.line
  unfold line lineTk
  rcases hk with ⟨k1, k2, k3⟩ | ⟨k1, k2, k3, k4⟩
  · rw [if_pos k1, if_pos k1]
    have := LexAs.tk (name_tok hn _ (cut 32 _ rfl)) (LexAs.sp (name_tok (s := flagW) (by decide) _ (cut 59 _ rfl)) end_)
    simpa [List.append_assoc] using this
  · rw [if_neg (by omega), if_neg (by omega)]
    have := LexAs.tk (name_tok hn _ (cut 32 _ rfl)) (LexAs.sp (name_tok (s := numW) (by decide) _ (cut 32 _ rfl)) (LexAs.sp (dec_tok f.lo.toNat (by omega) _ (cut 32 _ rfl))
      (LexAs.sp (name_tok (s := toW) (by decide) _ (cut 32 _ rfl)) (LexAs.sp (dec_tok f.hi.toNat (by omega) _ (cut 59 _ rfl)) end_))))
    simpa [List.append_assoc] using this
theorem text_lex : ∀ (d : List Fc), (∀ f ∈ d, factOk f = true) → LexAs (d.flatMap line) (d.flatMap lineTk)
  | [], _ => LexAs.nil
  | f :: d, h => by
    rw [List.flatMap_cons, List.flatMap_cons]
    exact line_lex (h f (List.mem_cons_self ..)) (text_lex d fun g hg => h g (List.mem_cons_of_mem _ hg))

/-! the readers at these tokens -/
theorem take_hit {k : Nat} {x : List UInt8} {en : Nat} {t : Nat × Tk} {r : Ts} (hk : t.2.kind = k) (hx : x = [] ∨ t.2.text = x) : take k x en (t :: r) = .ok (t, r) := by
  simp only [take]
  rw [if_neg]
  rintro (h | ⟨h1, h2⟩)
  · exact h hk
  · rcases hx with hx | hx
    · exact h1 hx
    · exact h2 hx
theorem more {ts : Ts} {t : Tk} {tk : List Tk} (h : ts.map (·.2) = t :: tk) : ∃ a r, ts = (a, t) :: r ∧ r.map (·.2) = tk := by
  cases ts with
  | nil => simp at h
  | cons p r =>
    simp only [List.map_cons, List.cons.injEq] at h
    exact ⟨p.1, r, by rw [← h.1], h.2⟩
theorem index_new {d : List Fc} {n : List UInt8} (h : ∀ g ∈ d, g.name ≠ n) : (index d n).isSome = false := by
  unfold index
  rw [List.findIdx?_isSome, List.any_eq_false]
  intro g hg
  simpa using h g hg
theorem factS_line {en : Nat} {d : List Fc} {f : Fc} {ts : Ts} {tk : List Tk} (hts : ts.map (·.2) = lineTk f ++ tk) (hf : factOk f = true) (hnew : ∀ g ∈ d, g.name ≠ f.name) (hl : d.length ≠ 60) :
    ∃ us, factS en d ts = .ok (f, us) ∧ us.map (·.2) = tk ∧ us.length < ts.length := by
  obtain ⟨hn, hk⟩ := fact_cases hf
  unfold lineTk at hts
  obtain ⟨nm, kd, lo, hi⟩ := f
  simp only at hn hk hts hnew
  rcases hk with ⟨rfl, rfl, rfl⟩ | ⟨rfl, k2, k3, k4⟩
  · rw [if_pos rfl] at hts
    obtain ⟨a1, r1, rfl, h1⟩ := more hts
    obtain ⟨a2, r2, rfl, h2⟩ := more h1
    obtain ⟨a3, r3, rfl, h3⟩ := more h2
    refine ⟨r3, ?_, h3, by simp; omega⟩
    unfold factS
    rw [take_hit (k := 1) (x := []) (by rfl) (.inl rfl)]
    simp only [Except.bind, tkN, index_new hnew, if_neg hl, Bool.false_eq_true, if_false]
    rw [take_hit (k := 1) (x := []) (by rfl) (.inl rfl)]
    simp only [Except.bind, if_true]
    rw [take_hit (k := 4) (x := [59]) (by rfl) (.inr (by rfl))]
  · rw [if_neg (by decide)] at hts
    obtain ⟨a1, r1, rfl, h1⟩ := more hts
    obtain ⟨a2, r2, rfl, h2⟩ := more h1
    obtain ⟨a3, r3, rfl, h3⟩ := more h2
    obtain ⟨a4, r4, rfl, h4⟩ := more h3
    obtain ⟨a5, r5, rfl, h5⟩ := more h4
    obtain ⟨a6, r6, rfl, h6⟩ := more h5
    refine ⟨r6, ?_, h6, by simp; omega⟩
    have e1 : ¬ 1000000 < lo.toNat := by omega
    have e2 : ¬ (1000000 < hi.toNat ∨ hi.toNat < lo.toNat) := by omega
    have hs : spanS en ((a3, tkD lo.toNat) :: (a4, tkN toW) :: (a5, tkD hi.toNat) :: (a6, tkS 59) :: r6) = .ok ((lo.toNat, hi.toNat), (a6, tkS 59) :: r6) := by
      unfold spanS
      rw [take_hit (k := 2) (x := []) (by rfl) (.inl rfl)]
      simp only [Except.bind, tkD, e1, if_false]
      rw [take_hit (k := 1) (x := toW) (by rfl) (.inr (by rfl))]
      simp only [Except.bind]
      rw [take_hit (k := 2) (x := []) (by rfl) (.inl rfl)]
      simp only [Except.bind, e2, if_false]
    unfold factS
    rw [take_hit (k := 1) (x := []) (by rfl) (.inl rfl)]
    simp only [Except.bind, tkN, index_new hnew, if_neg hl, Bool.false_eq_true, if_false]
    rw [take_hit (k := 1) (x := []) (by rfl) (.inl rfl)]
    simp only [Except.bind]
    rw [if_neg (by decide), if_pos trivial]
    have hs' : spanS en ((a3, tkD lo.toNat) :: (a4, { kind := 1, n := 0, text := toW, width := toW.length }) :: (a5, tkD hi.toNat) :: (a6, tkS 59) :: r6) = .ok ((lo.toNat, hi.toNat), (a6, tkS 59) :: r6) := hs
    rw [hs']
    simp only [Except.bind]
    rw [take_hit (k := 4) (x := [59]) (by rfl) (.inr (by rfl))]
    simp only [Except.ok.injEq, Prod.mk.injEq, and_true]
    rw [show ((lo.toNat : Nat) : Int) = lo by omega, show ((hi.toNat : Nat) : Int) = hi by omega]
theorem parseN_text (en : Nat) : ∀ (r done : List Fc) (k : Nat) (ts : Ts), ts.map (·.2) = r.flatMap lineTk → Valid (done ++ r) → ts.length ≤ k → parseN en k done ts = .ok (done ++ r)
  | [], done, k, ts, h, hv, hk => by
    cases ts with
    | nil => cases k <;> simp [parseN]
    | cons t ts => simp at h
  | f :: r, done, k, ts, h, hv, hk => by
    rw [List.flatMap_cons] at h
    obtain ⟨v1, v2, v3⟩ := hv
    have hf := v1 f (by simp)
    have hnew : ∀ g ∈ done, g.name ≠ f.name := by
      rw [List.map_append, List.nodup_append] at v2
      intro g hg
      exact v2.2.2 _ (List.mem_map_of_mem hg) _ (by simp)
    rw [List.length_append, List.length_cons] at v3
    obtain ⟨us, u1, u2, u3⟩ := factS_line (en := en) h hf hnew (by omega)
    obtain ⟨k, rfl⟩ : ∃ m, k = m + 1 := ⟨k - 1, by omega⟩
    cases ts with
    | nil => simp at u3
    | cons t ts =>
      simp only [parseN]
      rw [u1]
      simp only [Except.bind]
      have e : done ++ f :: r = done ++ [f] ++ r := by simp
      have hv' : Valid (done ++ [f] ++ r) := by rw [← e]; exact ⟨v1, v2, by rw [List.length_append, List.length_cons]; omega⟩
      rw [e]
      exact parseN_text en r (done ++ [f]) k us u2 hv' (by omega)
theorem parse_text {en : Nat} {d : List Fc} (hv : Valid d) {ts : Ts} (h : ts.map (·.2) = d.flatMap lineTk) : parse en ts = .ok d := by
  have := parseN_text en d [] ts.length ts h hv (Nat.le_refl _)
  exact this

/-! cases -/
def enTk (p : List UInt8 × Nat) : List Tk := [tkN p.1, tkS 61, tkD p.2]
def tailTk (ps : List (List UInt8 × Nat)) : List Tk := ps.flatMap fun p => tkS 44 :: enTk p
def caseTk : List (List UInt8 × Nat) → List Tk
  | [] => []
  | a :: r => enTk a ++ tailTk r
def enB (p : List UInt8 × Nat) : List UInt8 := p.1 ++ 32 :: 61 :: 32 :: dec p.2
def tailB (ps : List (List UInt8 × Nat)) : List UInt8 := ps.flatMap fun p => 44 :: 32 :: enB p
def caseB : List (List UInt8 × Nat) → List UInt8
  | [] => []
  | a :: r => enB a ++ tailB r
theorem joined_eq : ∀ ps : List (List UInt8 × Nat), joined (ps.map enB) = caseB ps
  | [] => rfl
  | [a] => by simp [joined, caseB, tailB]
  | a :: b :: r => by
    have := joined_eq (b :: r)
    simp only [List.map_cons, joined] at this ⊢
    rw [this]
    simp [caseB, tailB]
theorem tailB_cut (ps : List (List UInt8 × Nat)) : ∀ x t, tailB ps = x :: t → isW x = false := by
  intro x t h
  cases ps with
  | nil => simp [tailB] at h
  | cons p ps =>
    simp only [tailB, List.flatMap_cons, List.cons_append, List.cons.injEq] at h
    rw [← h.1]; rfl
theorem en_lex {p : List UInt8 × Nat} (hp : nameOk p.1 = true ∧ p.2 ≤ 1000000) {r : List UInt8} (hr : ∀ x t, r = x :: t → isW x = false) {tk : List Tk} (h : LexAs r tk) : LexAs (enB p ++ r) (enTk p ++ tk) := by
  have h2 : LexAs (32 :: (dec p.2 ++ r)) (tkD p.2 :: tk) := LexAs.sp (dec_tok p.2 hp.2 r hr) h
  have h1 : LexAs (32 :: ([61] ++ 32 :: (dec p.2 ++ r))) (tkS 61 :: tkD p.2 :: tk) := LexAs.sp (.sym 61 _ rfl) h2
  have h0 := LexAs.tk (name_tok hp.1 _ (cut 32 _ rfl)) h1
  simpa [enB, enTk, List.append_assoc] using h0
theorem tail_lex : ∀ (ps : List (List UInt8 × Nat)), (∀ p ∈ ps, nameOk p.1 = true ∧ p.2 ≤ 1000000) → LexAs (tailB ps) (tailTk ps)
  | [], _ => LexAs.nil
  | p :: ps, h => by
    have ih := tail_lex ps fun q hq => h q (List.mem_cons_of_mem _ hq)
    have hp := h p (List.mem_cons_self ..)
    have e := en_lex hp (tailB_cut ps) ih
    have e' : LexAs (32 :: (enB p ++ tailB ps)) (enTk p ++ tailTk ps) := by
      intro off
      obtain ⟨n1, hn⟩ : ∃ c w, p.1 = c :: w := by
        cases hc : p.1 with
        | nil => have := hp.1; rw [hc] at this; simp [nameOk] at this
        | cons c w => exact ⟨c, w, rfl⟩
      have h2 : LexAs (32 :: (dec p.2 ++ tailB ps)) (tkD p.2 :: tailTk ps) := LexAs.sp (dec_tok p.2 hp.2 _ (tailB_cut ps)) ih
      have h1 : LexAs (32 :: ([61] ++ 32 :: (dec p.2 ++ tailB ps))) (tkS 61 :: tkD p.2 :: tailTk ps) := LexAs.sp (.sym 61 _ rfl) h2
      have h0 := LexAs.sp (name_tok hp.1 _ (cut 32 _ rfl)) h1
      have := h0 off
      simpa [enB, enTk, List.append_assoc] using this
    have h3 : LexAs ([44] ++ 32 :: (enB p ++ tailB ps)) (tkS 44 :: (enTk p ++ tailTk ps)) := LexAs.tk (.sym 44 _ rfl) e'
    simpa [tailB, tailTk, List.append_assoc] using h3
theorem case_lex (ps : List (List UInt8 × Nat)) (h : ∀ p ∈ ps, nameOk p.1 = true ∧ p.2 ≤ 1000000) : LexAs (caseB ps) (caseTk ps) := by
  cases ps with
  | nil => exact LexAs.nil
  | cons p ps => exact en_lex (h p (List.mem_cons_self ..)) (tailB_cut ps) (tail_lex ps fun q hq => h q (List.mem_cons_of_mem _ hq))

theorem index_at {d : List Fc} (hv : (d.map (·.name)).Nodup) {i : Nat} {f : Fc} (h : d[i]? = some f) : index d f.name = some i := by
  unfold index
  rw [List.findIdx?_eq_some_iff_getElem]
  obtain ⟨hi, rfl⟩ := List.getElem?_eq_some_iff.1 h
  refine ⟨hi, by simp, ?_⟩
  intro j hj
  have := (List.pairwise_iff_getElem.1 hv) j i (by simp; omega) (by simp; omega) hj
  simpa using this
theorem caseS_hit {d : List Fc} (hv : Valid d) {en : Nat} {first : Bool} {v : List (Option Int)} {ts : Ts} {tk : List Tk} {i n : Nat} {f : Fc} (hi : d[i]? = some f) (hvi : v.getD i none = none) (h1 : f.lo ≤ n) (h2 : (n : Int) ≤ f.hi)
    (hts : ts.map (·.2) = (if first then [] else [tkS 44]) ++ (enTk (f.name, n) ++ tk)) : ∃ us, caseS d en first v ts = .ok (v.set i (some (n : Int)), us) ∧ us.map (·.2) = tk ∧ us.length < ts.length := by
  have step : ∀ ts : Ts, ts.map (·.2) = enTk (f.name, n) ++ tk → ∃ us, ((take 1 [] en ts).bind fun a =>
      match index d a.1.2.text with
      | none => .error (7, a.1.1)
      | some i =>
        if (v.getD i none).isSome then .error (9, a.1.1) else
        (take 4 [61] en a.2).bind fun b =>
        (take 2 [] en b.2).bind fun n =>
        if (n.1.2.n : Int) < (d.getD i ⟨[], 0, 0, 0⟩).lo ∨ (d.getD i ⟨[], 0, 0, 0⟩).hi < (n.1.2.n : Int) then .error (10, n.1.1) else .ok (v.set i (some (n.1.2.n : Int)), n.2)) = (.ok (v.set i (some (n : Int)), us) : Except (Nat × Nat) (List (Option Int) × Ts)) ∧ us.map (·.2) = tk ∧ us.length < ts.length := by
    intro ts hts
    obtain ⟨a1, r1, rfl, g1⟩ := more hts
    obtain ⟨a2, r2, rfl, g2⟩ := more g1
    obtain ⟨a3, r3, rfl, g3⟩ := more g2
    refine ⟨r3, ?_, g3, by simp; omega⟩
    rw [take_hit (k := 1) (x := []) (by rfl) (.inl rfl)]
    have hd : d.getD i ⟨[], 0, 0, 0⟩ = f := by rw [List.getD_eq_getElem?_getD, hi]; rfl
    simp only [Except.bind, tkN, index_at hv.2.1 hi, hvi, Option.isSome_none, Bool.false_eq_true, if_false]
    rw [take_hit (k := 4) (x := [61]) (by rfl) (.inr (by rfl))]
    simp only [Except.bind]
    rw [take_hit (k := 2) (x := []) (by rfl) (.inl rfl)]
    simp only [Except.bind, tkD, hd]
    rw [if_neg (by omega)]
  unfold caseS commaS
  cases first with
  | true =>
    rw [if_pos rfl] at hts
    exact step ts hts
  | false =>
    rw [if_neg (by decide)] at hts
    obtain ⟨a0, r0, rfl, g0⟩ := more hts
    obtain ⟨us, u1, u2, u3⟩ := step r0 g0
    refine ⟨us, ?_, u2, by simp; omega⟩
    rw [if_neg (by decide), take_hit (k := 4) (x := [44]) (by rfl) (.inr (by rfl))]
    exact u1

/-- The values at their places. -/
def put (v : List (Option Int)) (ps : List (Nat × Nat)) : List (Option Int) := ps.foldl (fun v p => v.set p.1 (some (p.2 : Int))) v
def named (d : List Fc) (ps : List (Nat × Nat)) : List (List UInt8 × Nat) := ps.map fun p => ((d.getD p.1 ⟨[], 0, 0, 0⟩).name, p.2)
theorem caseN_list {d : List Fc} (hv : Valid d) (en : Nat) : ∀ (ps : List (Nat × Nat)) (first : Bool) (v : List (Option Int)) (k : Nat) (ts : Ts),
    ts.map (·.2) = (if first then caseTk (named d ps) else tailTk (named d ps)) → ts.length ≤ k → (ps.map (·.1)).Nodup → (∀ p ∈ ps, ∃ f, d[p.1]? = some f ∧ f.lo ≤ (p.2 : Int) ∧ (p.2 : Int) ≤ f.hi) → (∀ p ∈ ps, v.getD p.1 none = none) →
    caseN d en k first v ts = caseEnd en (put v ps)
  | [], first, v, k, ts, h, hk, _, _, _ => by
    have : ts = [] := by
      cases first <;> simpa [named, caseTk, tailTk] using h
    subst this
    cases k <;> simp [caseN, put]
  | p :: ps, first, v, k, ts, h, hk, hn, hd, hvn => by
    obtain ⟨f, f1, f2, f3⟩ := hd p (List.mem_cons_self ..)
    have hg : d.getD p.1 ⟨[], 0, 0, 0⟩ = f := by rw [List.getD_eq_getElem?_getD, f1]; rfl
    have hts : ts.map (·.2) = (if first then [] else [tkS 44]) ++ (enTk (f.name, p.2) ++ tailTk (named d ps)) := by
      rw [h]
      cases first <;> simp [named, caseTk, tailTk, f1]
    obtain ⟨us, u1, u2, u3⟩ := caseS_hit hv (en := en) f1 (hvn p (List.mem_cons_self ..)) f2 f3 hts
    obtain ⟨k, rfl⟩ : ∃ m, k = m + 1 := ⟨k - 1, by omega⟩
    rw [List.map_cons, List.nodup_cons] at hn
    cases ts with
    | nil => simp at u3
    | cons t ts =>
      simp only [caseN]
      rw [u1]
      simp only [Except.bind]
      refine caseN_list hv en ps false _ k us (by simpa using u2) (by omega) hn.2 (fun q hq => hd q (List.mem_cons_of_mem _ hq)) ?_
      intro q hq
      have hne : p.1 ≠ q.1 := fun e => hn.1 (e ▸ List.mem_map_of_mem hq)
      have := hvn q (List.mem_cons_of_mem _ hq)
      rw [List.getD_eq_getElem?_getD] at this ⊢
      rw [List.getElem?_set_ne hne]
      exact this
theorem put_length : ∀ (ps : List (Nat × Nat)) (v : List (Option Int)), (put v ps).length = v.length
  | [], v => rfl
  | p :: ps, v => by
    have := put_length ps (v.set p.1 (some (p.2 : Int)))
    simp only [put, List.foldl_cons] at this ⊢
    rw [this, List.length_set]
def nones (v : List (Option Int)) : Nat := v.countP (·.isNone)
theorem nones_set : ∀ (v : List (Option Int)) (i : Nat) (x : Int), v[i]? = some none → nones (v.set i (some x)) + 1 = nones v
  | [], i, x, h => by simp at h
  | a :: v, 0, x, h => by
    simp only [List.getElem?_cons_zero, Option.some.injEq] at h
    subst h
    simp [nones, List.countP_cons]
  | a :: v, i + 1, x, h => by
    have := nones_set v i x (by simpa using h)
    simp only [nones, List.set_cons_succ, List.countP_cons] at this ⊢
    omega
theorem put_ok : ∀ (ps : List (Nat × Nat)) (v : List (Option Int)), (ps.map (·.1)).Nodup → (∀ p ∈ ps, v[p.1]? = some none) →
    nones (put v ps) + ps.length = nones v ∧ ∀ (i : Nat) (x : Int), (put v ps)[i]? = some (some x) → v[i]? = some (some x) ∨ ∃ n : Nat, (i, n) ∈ ps ∧ x = n
  | [], v, _, _ => ⟨rfl, fun i x h => .inl h⟩
  | p :: ps, v, hn, hv => by
    rw [List.map_cons, List.nodup_cons] at hn
    have hp := hv p (List.mem_cons_self ..)
    obtain ⟨i1, i2⟩ := put_ok ps (v.set p.1 (some (p.2 : Int))) hn.2 (fun q hq => by
      have hne : p.1 ≠ q.1 := fun e => hn.1 (e ▸ List.mem_map_of_mem hq)
      rw [List.getElem?_set_ne hne]
      exact hv q (List.mem_cons_of_mem _ hq))
    have hs := nones_set v p.1 (p.2 : Int) hp
    refine ⟨by rw [List.length_cons]; simp only [put, List.foldl_cons] at i1 ⊢; omega, ?_⟩
    intro i x h
    rcases i2 i x h with h | ⟨n, h1, h2⟩
    · by_cases e : p.1 = i
      · subst e
        have hl : p.1 < v.length := by
          obtain ⟨hl, _⟩ := List.getElem?_eq_some_iff.1 hp
          exact hl
        rw [List.getElem?_set_self hl] at h
        simp only [Option.some.injEq] at h
        exact .inr ⟨p.2, List.mem_cons_self .., h.symm⟩
      · rw [List.getElem?_set_ne e] at h
        exact .inl h
    · exact .inr ⟨n, List.mem_cons_of_mem _ h1, h2⟩
theorem nones_zero {v : List (Option Int)} (h : nones v = 0) : v.any (·.isNone) = false := by
  unfold nones at h
  rw [List.countP_eq_zero] at h
  rw [List.any_eq_false]
  exact h

/-- A case is read from its values in any order. -/
theorem parseCase_list {d : List Fc} (hv : Valid d) (en : Nat) {c : List Int} (hc : c.length = d.length) {ps : List (Nat × Nat)} (hl : ps.length = d.length) (hn : (ps.map (·.1)).Nodup)
    (hp : ∀ p ∈ ps, (∃ f, d[p.1]? = some f ∧ f.lo ≤ (p.2 : Int) ∧ (p.2 : Int) ≤ f.hi) ∧ c[p.1]? = some (p.2 : Int)) {ts : Ts} (h : ts.map (·.2) = caseTk (named d ps)) : parseCase d en ts = .ok c := by
  have hr : ∀ p ∈ ps, (List.replicate d.length (none : Option Int))[p.1]? = some none := by
    intro p hq
    obtain ⟨⟨f, f1, _⟩, _⟩ := hp p hq
    obtain ⟨hi, _⟩ := List.getElem?_eq_some_iff.1 f1
    rw [List.getElem?_replicate_of_lt hi]
  obtain ⟨q1, q2⟩ := put_ok ps (List.replicate d.length none) hn hr
  have hz : nones (List.replicate d.length (none : Option Int)) = d.length := by
    unfold nones
    rw [List.countP_replicate]
    rfl
  unfold parseCase
  rw [caseN_list hv en ps true _ _ ts (by rw [if_pos rfl]; exact h) (Nat.le_refl _) hn (fun p hq => (hp p hq).1) (fun p hq => by rw [List.getD_eq_getElem?_getD, hr p hq]; rfl)]
  unfold caseEnd
  rw [nones_zero (by omega), if_neg (by decide)]
  congr 1
  apply List.ext_getElem?
  intro i
  rw [List.getElem?_map]
  have hpl := put_length ps (List.replicate d.length none)
  rw [List.length_replicate] at hpl
  by_cases hi : i < d.length
  · have hget : (put (List.replicate d.length none) ps)[i]? = some ((put (List.replicate d.length none) ps)[i]'(by omega)) := List.getElem?_eq_getElem (by omega)
    have hnn : ¬ ((put (List.replicate d.length none) ps)[i]'(by omega)).isNone = true := by
      have hz0 := nones_zero (v := put (List.replicate d.length none) ps) (by omega)
      rw [List.any_eq_false] at hz0
      exact hz0 _ (List.getElem_mem _)
    cases hx : (put (List.replicate d.length none) ps)[i]'(by omega) with
    | none => rw [hx] at hnn; simp at hnn
    | some x =>
      rw [hx] at hget
      rw [hget]
      rcases q2 i x hget with h | ⟨n, h1, h2⟩
      · rw [List.getElem?_replicate_of_lt hi] at h
        cases h
      · have := (hp _ h1).2
        rw [this, h2]
        rfl
  · rw [List.getElem?_eq_none (by omega), List.getElem?_eq_none (by omega)]
    rfl

end Go.Proofs.YtgddmfphlhlcjaaDoor.FcP
namespace Go.Proofs.YtgddmfphlhlcjaaDoor.FcP
open Go.Proofs.YtgddmfphlhlcjaaDoor.LxP
set_option linter.unusedVariables false
set_option linter.unusedSimpArgs false

theorem within_iff : ∀ (d : List Fc) (c : List Int), within d c = true ↔ c.length = d.length ∧ ∀ (i : Nat) (f : Fc) (x : Int), d[i]? = some f → c[i]? = some x → f.lo ≤ x ∧ x ≤ f.hi
  | [], [] => by simp [within]
  | [], x :: c => by simp [within]
  | f :: d, [] => by simp [within]
  | f :: d, x :: c => by
    have ih := within_iff d c
    simp only [within, Bool.and_eq_true, decide_eq_true_eq, ih, List.length_cons, Nat.add_right_cancel_iff]
    constructor
    · rintro ⟨⟨h1, h2⟩, h3, h4⟩
      refine ⟨h3, ?_⟩
      intro i g y hg hy
      cases i with
      | zero =>
        simp only [List.getElem?_cons_zero, Option.some.injEq] at hg hy
        rw [← hg, ← hy]; exact ⟨h1, h2⟩
      | succ i => exact h4 i g y (by simpa using hg) (by simpa using hy)
    · rintro ⟨h1, h2⟩
      exact ⟨h2 0 f x rfl rfl, h1, fun i g y hg hy => h2 (i + 1) g y (by simpa using hg) (by simpa using hy)⟩

theorem index_some {d : List Fc} {n : List UInt8} {i : Nat} (h : index d n = some i) : ∃ f, d[i]? = some f ∧ f.name = n := by
  unfold index at h
  rw [List.findIdx?_eq_some_iff_getElem] at h
  obtain ⟨hi, h1, h2⟩ := h
  exact ⟨d[i], List.getElem?_eq_getElem hi, by simpa using h1⟩
def InV (d : List Fc) (v : List (Option Int)) : Prop := v.length = d.length ∧ ∀ (i : Nat) (f : Fc) (x : Int), d[i]? = some f → v[i]? = some (some x) → f.lo ≤ x ∧ x ≤ f.hi
theorem caseS_ok (d : List Fc) (en : Nat) (first : Bool) {v : List (Option Int)} (hv : InV d v) {ts : Ts} (h : Good en ts) : OkE (Bd en) (fun r => InV d r.1 ∧ Good en r.2 ∧ r.2.length < ts.length) (caseS d en first v ts) := by
  have hc : OkE (Bd en) (fun us => Good en us ∧ us.length ≤ ts.length) (commaS en first ts) := by
    unfold commaS
    refine OkE.ite (fun _ => ⟨h, Nat.le_refl _⟩) (fun _ => ?_)
    refine (take_ok 4 [44] en h).bind fun z hz => ⟨hz.2.1, by have := hz.2.2; show z.2.length ≤ ts.length; omega⟩
  refine hc.bind fun us hu => ?_
  refine (take_ok 1 [] en hu.1).bind fun a ha => ?_
  cases hi : index d a.1.2.text with
  | none => exact ⟨ha.1.1, by show 2 ≤ 7; decide⟩
  | some i =>
    obtain ⟨f, f1, f2⟩ := index_some hi
    have hg : d.getD i ⟨[], 0, 0, 0⟩ = f := by rw [List.getD_eq_getElem?_getD, f1]; rfl
    refine OkE.ite (fun _ => ⟨ha.1.1, by show 2 ≤ 9; decide⟩) (fun _ => ?_)
    refine (take_ok 4 [61] en ha.2.1).bind fun b hb => ?_
    refine (take_ok 2 [] en hb.2.1).bind fun n hn => ?_
    refine OkE.ite (fun _ => ⟨hn.1.1, by show 2 ≤ 10; decide⟩) (fun hr => ?_)
    rw [hg] at hr
    have e1 := hu.2
    have e2 := ha.2.2
    have e3 := hb.2.2
    have e4 := hn.2.2
    refine ⟨⟨by rw [List.length_set]; exact hv.1, ?_⟩, hn.2.1, by show n.2.length < ts.length; omega⟩
    intro j g x hj hx
    by_cases e : i = j
    · subst e
      obtain ⟨hl, _⟩ := List.getElem?_eq_some_iff.1 f1
      rw [List.getElem?_set_self (by rw [hv.1]; exact hl)] at hx
      simp only [Option.some.injEq] at hx
      rw [f1] at hj
      injection hj with hj
      rw [← hj, ← hx]
      omega
    · rw [List.getElem?_set_ne e] at hx
      exact hv.2 j g x hj hx
theorem caseEnd_ok {d : List Fc} {en : Nat} {v : List (Option Int)} (hv : InV d v) : OkE (Bd en) (fun c => within d c = true) (caseEnd en v) := by
  unfold caseEnd
  refine OkE.ite (fun _ => ⟨Nat.le_refl _, by show 2 ≤ 11; decide⟩) (fun hn => ?_)
  show within d (v.map (·.getD 0)) = true
  rw [within_iff]
  refine ⟨by rw [List.length_map]; exact hv.1, ?_⟩
  intro i f x hf hx
  rw [List.getElem?_map] at hx
  cases hvi : v[i]? with
  | none => rw [hvi] at hx; cases hx
  | some o =>
    cases o with
    | none =>
      exfalso
      apply hn
      rw [List.any_eq_true]
      exact ⟨none, List.mem_of_getElem? hvi, rfl⟩
    | some y =>
      rw [hvi] at hx
      simp only [Option.map_some, Option.getD_some, Option.some.injEq] at hx
      rw [← hx]
      exact hv.2 i f y hf hvi
theorem caseN_ok (d : List Fc) (en : Nat) : ∀ (k : Nat) (first : Bool) (v : List (Option Int)) (ts : Ts), InV d v → Good en ts → OkE (Bd en) (fun c => within d c = true) (caseN d en k first v ts)
  | k, f, v, [], hv, _ => by cases k <;> exact caseEnd_ok hv
  | 0, f, v, t :: ts, hv, _ => caseEnd_ok hv
  | k + 1, f, v, t :: ts, hv, h => by
    refine (caseS_ok d en f hv h).bind fun r hr => ?_
    exact caseN_ok d en k false _ _ hr.1 hr.2.1
theorem parseCase_ok (d : List Fc) (en : Nat) {ts : Ts} (h : Good en ts) : OkE (Bd en) (fun c => within d c = true) (parseCase d en ts) := by
  refine caseN_ok d en _ true _ _ ⟨by simp, ?_⟩ h
  intro i f x hf hx
  obtain ⟨hi, _⟩ := List.getElem?_eq_some_iff.1 hf
  rw [List.getElem?_replicate_of_lt hi] at hx
  cases hx

/-! canonical texts of cases -/
def pairs (d : List Fc) (c : List Int) : List (List UInt8 × Nat) := List.zipWith (fun f x => (f.name, x.toNat)) d c
theorem entries_eq : ∀ (d : List Fc) (c : List Int), entries d c = (pairs d c).map enB
  | [], _ => by simp [entries, pairs]
  | f :: d, [] => by simp [entries, pairs]
  | f :: d, x :: c => by
    have := entries_eq d c
    simp only [entries, pairs, List.zipWith_cons_cons, List.map_cons] at this ⊢
    rw [this]
    rfl
def order (d : List Fc) (c : List Int) : List (Nat × Nat) := (List.range d.length).map fun i => (i, (c.getD i 0).toNat)
theorem named_order (d : List Fc) (c : List Int) (h : c.length = d.length) : named d (order d c) = pairs d c := by
  apply List.ext_getElem?
  intro i
  unfold named order pairs
  rw [List.map_map, List.getElem?_map, List.getElem?_zipWith]
  by_cases hi : i < d.length
  · rw [List.getElem?_range hi]
    have h1 : d[i]? = some d[i] := List.getElem?_eq_getElem hi
    have h2 : c[i]? = some (c[i]'(by omega)) := List.getElem?_eq_getElem (by omega)
    simp only [Option.map_some, Function.comp, List.getD_eq_getElem?_getD, h1, h2, Option.getD_some]
  · have h1 : d[i]? = none := List.getElem?_eq_none (by omega)
    rw [List.getElem?_eq_none (by rw [List.length_range]; omega), h1]
    rfl
theorem named_reverse (d : List Fc) (ps : List (Nat × Nat)) : named d ps.reverse = (named d ps).reverse := by unfold named; rw [List.map_reverse]
theorem pairs_reverse (d : List Fc) (c : List Int) (h : c.length = d.length) : pairs d.reverse c.reverse = (pairs d c).reverse := by
  unfold pairs
  exact (List.reverse_zipWith (by omega)).symm
theorem pairs_good {d : List Fc} {c : List Int} (hf : Fits d c) : ∀ p ∈ pairs d c, nameOk p.1 = true ∧ p.2 ≤ 1000000 := by
  obtain ⟨hv, hw⟩ := hf
  rw [within_iff] at hw
  intro p hp
  obtain ⟨i, hi, rfl⟩ := List.mem_iff_getElem.1 hp
  unfold pairs at hi ⊢
  rw [List.getElem_zipWith]
  rw [List.length_zipWith] at hi
  have hid : i < d.length := by omega
  have hm : d[i] ∈ d := List.getElem_mem hid
  obtain ⟨n, k⟩ := fact_cases (hv.1 _ hm)
  have := hw.2 i d[i] (c[i]'(by omega)) (List.getElem?_eq_getElem hid) (List.getElem?_eq_getElem (by omega))
  refine ⟨n, ?_⟩
  show (c[i]'(by omega)).toNat ≤ 1000000
  omega
theorem order_ok {d : List Fc} {c : List Int} (hf : Fits d c) : (order d c).length = d.length ∧ ((order d c).map (·.1)).Nodup ∧ ∀ p ∈ order d c, (∃ f, d[p.1]? = some f ∧ f.lo ≤ (p.2 : Int) ∧ (p.2 : Int) ≤ f.hi) ∧ c[p.1]? = some (p.2 : Int) := by
  obtain ⟨hv, hw⟩ := hf
  rw [within_iff] at hw
  refine ⟨by simp [order], ?_, ?_⟩
  · have : (order d c).map (·.1) = List.range d.length := by
      unfold order
      rw [List.map_map]
      simp [Function.comp_def]
    rw [this]
    exact List.nodup_range
  · intro p hp
    unfold order at hp
    obtain ⟨i, hi, rfl⟩ := List.mem_map.1 hp
    rw [List.mem_range] at hi
    have h1 : d[i]? = some d[i] := List.getElem?_eq_getElem hi
    have h2 : c[i]? = some (c[i]'(by omega)) := List.getElem?_eq_getElem (by omega)
    obtain ⟨n, k⟩ := fact_cases (hv.1 _ (List.getElem_mem hi))
    have := hw.2 i _ _ h1 h2
    have e : (((c.getD i 0).toNat : Nat) : Int) = c[i]'(by omega) := by
      rw [List.getD_eq_getElem?_getD, h2, Option.getD_some]
      omega
    show (∃ f, d[i]? = some f ∧ f.lo ≤ (((c.getD i 0).toNat : Nat) : Int) ∧ (((c.getD i 0).toNat : Nat) : Int) ≤ f.hi) ∧ c[i]? = some (((c.getD i 0).toNat : Nat) : Int)
    rw [e]
    exact ⟨⟨d[i], h1, this⟩, h2⟩
theorem parseCase_text {d : List Fc} {c : List Int} (hf : Fits d c) (en : Nat) {ts : Ts} (h : ts.map (·.2) = caseTk (pairs d c)) : parseCase d en ts = .ok c := by
  obtain ⟨o1, o2, o3⟩ := order_ok hf
  have hc := ((within_iff d c).1 hf.2).1
  exact parseCase_list hf.1 en hc o1 o2 o3 (by rw [named_order d c hc]; exact h)
theorem parseCase_back {d : List Fc} {c : List Int} (hf : Fits d c) (en : Nat) {ts : Ts} (h : ts.map (·.2) = caseTk (pairs d.reverse c.reverse)) : parseCase d en ts = .ok c := by
  obtain ⟨o1, o2, o3⟩ := order_ok hf
  have hc := ((within_iff d c).1 hf.2).1
  refine parseCase_list hf.1 en hc (ps := (order d c).reverse) (by rw [List.length_reverse]; exact o1) (by rw [List.map_reverse]; exact (List.reverse_perm _).nodup_iff.2 o2) (fun p hp => o3 p (List.mem_reverse.1 hp)) ?_
  rw [named_reverse, named_order d c hc, ← pairs_reverse d c hc]
  exact h
theorem fits_reverse {d : List Fc} {c : List Int} (hf : Fits d c) : Fits d.reverse c.reverse := by
  obtain ⟨⟨v1, v2, v3⟩, hw⟩ := hf
  rw [within_iff] at hw
  refine ⟨⟨fun f hm => v1 f (List.mem_reverse.1 hm), by rw [List.map_reverse]; exact (List.reverse_perm _).nodup_iff.2 v2, by rw [List.length_reverse]; exact v3⟩, ?_⟩
  rw [within_iff]
  refine ⟨by rw [List.length_reverse, List.length_reverse]; exact hw.1, ?_⟩
  intro i f x hf hx
  obtain ⟨hi, _⟩ := List.getElem?_eq_some_iff.1 hf
  rw [List.length_reverse] at hi
  rw [List.getElem?_reverse hi] at hf
  rw [List.getElem?_reverse (by omega), hw.1] at hx
  exact hw.2 _ f x hf hx

/-! the next case -/
def nextL : List Fc → List Int → Option (List Int)
  | f :: d, x :: c => match nextL d c with
    | some n => some (x :: n)
    | none => if x < f.hi then some ((x + 1) :: d.map (·.lo)) else none
  | _, _ => none
def less : List Int → List Int → Bool
  | a :: r, b :: s => if a = b then less r s else decide (a < b)
  | _, _ => false
theorem least_within : ∀ (d : List Fc), (∀ f ∈ d, f.lo ≤ f.hi) → within d (d.map (·.lo)) = true
  | [], _ => rfl
  | f :: d, h => by
    have h1 := h f (List.mem_cons_self ..)
    simp only [List.map_cons, within, Bool.and_eq_true, decide_eq_true_eq]
    exact ⟨⟨Int.le_refl _, h1⟩, least_within d fun g hg => h g (List.mem_cons_of_mem _ hg)⟩
theorem least_least : ∀ (d : List Fc) (a : List Int), within d a = true → less a (d.map (·.lo)) = false
  | [], [], _ => rfl
  | [], x :: a, h => by simp [within] at h
  | f :: d, [], h => by simp [within] at h
  | f :: d, x :: a, h => by
    simp only [within, Bool.and_eq_true, decide_eq_true_eq] at h
    simp only [List.map_cons, less]
    by_cases e : x = f.lo
    · rw [if_pos e]; exact least_least d a h.2
    · rw [if_neg e]
      exact decide_eq_false (by omega)
theorem next_some : ∀ (d : List Fc) (a n : List Int), (∀ f ∈ d, f.lo ≤ f.hi) → within d a = true → nextL d a = some n → within d n = true ∧ less a n = true
  | [], a, n, _, _, h => by simp [nextL] at h
  | f :: d, [], n, _, _, h => by simp [nextL] at h
  | f :: d, x :: a, n, hl, hw, h => by
    simp only [within, Bool.and_eq_true, decide_eq_true_eq] at hw
    have hl' : ∀ g ∈ d, g.lo ≤ g.hi := fun g hg => hl g (List.mem_cons_of_mem _ hg)
    simp only [nextL] at h
    cases hr : nextL d a with
    | some m =>
      rw [hr] at h
      simp only [Option.some.injEq] at h
      subst h
      obtain ⟨i1, i2⟩ := next_some d a m hl' hw.2 hr
      simp only [within, less, Bool.and_eq_true, decide_eq_true_eq, if_true]
      exact ⟨⟨hw.1, i1⟩, i2⟩
    | none =>
      rw [hr] at h
      simp only at h
      by_cases hx : x < f.hi
      · rw [if_pos hx] at h
        simp only [Option.some.injEq] at h
        subst h
        simp only [within, less, Bool.and_eq_true, decide_eq_true_eq]
        rw [if_neg (by omega)]
        exact ⟨⟨⟨by omega, by omega⟩, least_within d hl'⟩, decide_eq_true (by omega)⟩
      · rw [if_neg hx] at h; cases h
theorem next_none : ∀ (d : List Fc) (a : List Int), within d a = true → (nextL d a = none ↔ a = d.map (·.hi))
  | [], [], _ => by simp [nextL]
  | [], x :: a, h => by simp [within] at h
  | f :: d, [], h => by simp [within] at h
  | f :: d, x :: a, h => by
    simp only [within, Bool.and_eq_true, decide_eq_true_eq] at h
    have ih := next_none d a h.2
    simp only [nextL, List.map_cons, List.cons.injEq]
    cases hr : nextL d a with
    | some m =>
      rw [hr] at ih
      simp only [reduceCtorEq, false_iff] at ih ⊢
      exact fun e => ih e.2
    | none =>
      rw [hr] at ih
      have e := ih.1 rfl
      by_cases hx : x < f.hi
      · simp only [hx, if_true, reduceCtorEq, false_iff]
        omega
      · simp only [hx, if_false, true_iff]
        exact ⟨by omega, e⟩
theorem next_least : ∀ (d : List Fc) (a b : List Int), within d a = true → within d b = true → less a b = true → ∃ n, nextL d a = some n ∧ less b n = false
  | [], [], b, _, _, h => by simp [less] at h
  | [], x :: a, b, h, _, _ => by simp [within] at h
  | f :: d, [], b, h, _, _ => by simp [within] at h
  | f :: d, x :: a, [], _, h, _ => by simp [within] at h
  | f :: d, x :: a, y :: b, ha, hb, h => by
    simp only [within, Bool.and_eq_true, decide_eq_true_eq] at ha hb
    simp only [less] at h
    simp only [nextL]
    by_cases e : x = y
    · rw [if_pos e] at h
      obtain ⟨n, n1, n2⟩ := next_least d a b ha.2 hb.2 h
      rw [n1]
      exact ⟨x :: n, rfl, by simp only [less]; rw [if_pos e.symm]; exact n2⟩
    · rw [if_neg e] at h
      have hxy : x < y := of_decide_eq_true h
      cases hr : nextL d a with
      | some m =>
        refine ⟨x :: m, rfl, ?_⟩
        simp only [less]
        rw [if_neg (fun h => e h.symm)]
        exact decide_eq_false (by omega)
      | none =>
        refine ⟨(x + 1) :: d.map (·.lo), by simp only [if_pos (show x < f.hi by omega)], ?_⟩
        simp only [less]
        by_cases e2 : y = x + 1
        · rw [if_pos e2]; exact least_least d b hb.2
        · rw [if_neg e2]
          exact decide_eq_false (by omega)

end Go.Proofs.YtgddmfphlhlcjaaDoor.FcP
namespace Go.Proofs.YtgddmfphlhlcjaaDoor.FcW
open Go.RowKit Go.Proofs.YtgddmfphlhlcjaaDoorW.PrintWords Go.Proofs.YtgddmfphlhlcjaaDoorW.PrintLast
open Go.Proofs.YtgddmfphlhlcjaaDoor Go.Proofs.YtgddmfphlhlcjaaDoor.PF Go.Proofs.YtgddmfphlhlcjaaDoor.LxP Go.Proofs.YtgddmfphlhlcjaaDoor.LxW Go.Proofs.YtgddmfphlhlcjaaDoor.FcP
set_option linter.unusedVariables false
set_option linter.unusedSimpArgs false

def isU (c : UInt8) : Bool := isD c || c == 95
/-- Every byte a letter; behind the first one also a digit or an underscore. -/
def goodFrom : Bool → List UInt8 → Bool
  | _, [] => true
  | first, c :: r => (isL c || (!first && isU c)) && goodFrom false r
theorem isW_eq : ∀ c : UInt8, isW c = (isL c || isU c) := all_bytes (by decide +kernel)
theorem goodFrom_all : ∀ l : List UInt8, goodFrom false l = l.all isW
  | [] => rfl
  | c :: r => by simp only [goodFrom, List.all_cons, goodFrom_all r, isW_eq, Bool.not_false, Bool.true_and]
theorem nameOk_eq (l : List UInt8) : nameOk l = (!l.isEmpty && goodFrom true l && decide (l.length ≤ 24)) := by
  cases l with
  | nil => rfl
  | cons c r =>
    simp only [nameOk, goodFrom, goodFrom_all, List.all_cons, isW_eq, Bool.not_true, Bool.false_and, Bool.or_false, List.isEmpty_cons, Bool.not_false, Bool.true_and]
    cases isL c <;> simp
theorem byte9 : ∀ x : UInt8, (decide (97 ≤ x.toNat), decide (x.toNat ≤ 122), decide (65 ≤ x.toNat), decide (x.toNat ≤ 90), decide (48 ≤ x.toNat), decide (x.toNat ≤ 57), x.toNat == 95, isL x, isU x) ∈
    [(false, true, false, true, false, true, false, false, false), (false, true, false, true, true, true, false, false, true), (false, true, false, true, true, false, false, false, false), (false, true, true, true, true, false, false, true, false),
     (false, true, true, false, true, false, false, false, false), (false, true, true, false, true, false, true, false, true), (true, true, true, false, true, false, false, true, false), (true, false, true, false, true, false, false, false, false)] := all_bytes (by decide +kernel)
theorem ret_bool {a b : Bool} (h : a = b) : Ending.returned (.bool a) = .returned (.bool b) := by rw [h]

set_option maxHeartbeats 16000000 in
set_option maxRecDepth 100000 in
theorem isName_any (s : ByteArray) (w : World) (hs : s.size ≤ 1000000) (r : Bool) (hr : nameOk (byts s) = r) : Calls Tryd.prog 28 #[.string s] w fun e w' => e = .returned (.bool r) ∧ ∃ n, w' = w.drewN n := by
  have HR := Aside0.mk hr
  clear hr
  go_enter Tryd.func28, Tryd.ntmps28
  go_wp2
  go_loopw [9] (fun v wr => ∃ (j n : Nat), j ≤ s.size ∧ v = .int .i64 j ∧ wr = w.drewN n ∧ Aside0 (goodFrom (decide (j = 0)) (rest s j) = goodFrom true (byts s))) (fun v _ => s.size - (intOf v).toNat)
  case atStart => exact ⟨0, 0, Nat.zero_le _, rfl, rfl, ⟨rfl⟩⟩
  case round =>
    obtain ⟨j, n, hj, rfl, rfl, HE⟩ := hrel
    by_cases hlt : j < s.size
    · have HX := Aside0.mk (rest_cons s j hlt)
      have hd : decide (j < s.size) = true := decide_eq_true hlt
      have hd2 : decide ((j : Int) < (s.size : Int)) = true := decide_eq_true (by omega)
      have hj0 : (0 : Int) ≤ (j : Int) := by omega
      have hj1 : (j : Int) < (s.size : Int) := by omega
      obtain ⟨x, hxe⟩ : ∃ x : UInt8, s[j]'hlt = x := ⟨_, rfl⟩
      obtain ⟨bz, hz⟩ : ∃ bz, decide (j = 0) = bz := ⟨_, rfl⟩
      have hz1 : ((j : Int) == 0) = bz := by rw [← hz, Bool.eq_iff_iff, beq_iff_eq, decide_eq_true_eq]; omega
      have hz2 : (j == 0) = bz := by rw [← hz, Bool.eq_iff_iff, beq_iff_eq, decide_eq_true_eq]
      have HG := Aside0.mk (show goodFrom bz (x :: rest s (j + 1)) = goodFrom true (byts s) by have := HE.out; rw [HX.out, hxe, hz] at this; exact this)
      clear hz HE HX
      have h9 := byte9 x
      simp only [List.mem_cons, Prod.mk.injEq, List.not_mem_nil, or_false] at h9
      rcases h9 with h9 | h9 | h9 | h9 | h9 | h9 | h9 | h9 <;> obtain ⟨a1, a2, a3, a4, a5, a6, a7, a8, a9⟩ := h9 <;> cases bz
      all_goals
        have i1 : decide ((97 : Int) ≤ (x.toNat : Int)) = decide (97 ≤ x.toNat) := decide_eq_decide.2 (by omega)
        rw [a1] at i1
        have i2 : decide ((x.toNat : Int) ≤ 122) = decide (x.toNat ≤ 122) := decide_eq_decide.2 (by omega)
        rw [a2] at i2
        have i3 : decide ((65 : Int) ≤ (x.toNat : Int)) = decide (65 ≤ x.toNat) := decide_eq_decide.2 (by omega)
        rw [a3] at i3
        have i4 : decide ((x.toNat : Int) ≤ 90) = decide (x.toNat ≤ 90) := decide_eq_decide.2 (by omega)
        rw [a4] at i4
        have i5 : decide ((48 : Int) ≤ (x.toNat : Int)) = decide (48 ≤ x.toNat) := decide_eq_decide.2 (by omega)
        rw [a5] at i5
        have i6 : decide ((x.toNat : Int) ≤ 57) = decide (x.toNat ≤ 57) := decide_eq_decide.2 (by omega)
        rw [a6] at i6
        have i7 : ((x.toNat : Int) == 95) = (x.toNat == 95) := by rw [Bool.eq_iff_iff, beq_iff_eq, beq_iff_eq]; omega
        rw [a7] at i7
        have A8 := Aside0.mk a8
        have A9 := Aside0.mk a9
        clear a8 a9
        go_wp2
        first
          | (go_ret
             exact ⟨ret_bool (by rw [← HR.out, nameOk_eq, ← HG.out]; simp only [goodFrom, A8.out, A9.out]; simp), n, rfl⟩)
          | (go_roundw
             case rel => exact ⟨j + 1, n, by omega, by go_num, rfl, ⟨by rw [← HG.out]; simp only [goodFrom, A8.out, A9.out]; simp⟩⟩
             case measure => simp [intOf]; omega)
    · have hd : decide (j < s.size) = false := decide_eq_false hlt
      have hd2 : decide ((j : Int) < (s.size : Int)) = false := decide_eq_false (by omega)
      have HGT := Aside0.mk (show goodFrom true (byts s) = true by rw [← HE.out, rest_nil s j hlt]; rfl)
      have hbl : (byts s).length = s.size := byts_length s
      by_cases h0 : s.size = 0
      · have he : s.toList = [] := by
          rw [ByteArray.toList_eq]
          exact List.eq_nil_of_length_eq_zero (hbl.trans h0)
        have HB := Aside0.mk (show byts s = [] from List.eq_nil_of_length_eq_zero (hbl.trans h0))
        clear hbl h0
        go_wp2
        go_ret
        exact ⟨ret_bool (by rw [← HR.out, HB.out]; rfl), n, rfl⟩
      · have he : (s.toList = []) = False := eq_false fun h => h0 (by
          rw [ByteArray.toList_eq] at h
          rw [← hbl]
          show s.data.toList.length = 0
          rw [h]
          rfl)
        have he2 : s.toList.isEmpty = false := by
          cases hl : s.toList with
          | nil => exact absurd hl (fun h => by rw [he] at h; exact h)
          | cons c r => rfl
        obtain ⟨b24, h24⟩ : ∃ b, decide ((s.size : Int) ≤ 24) = b := ⟨_, rfl⟩
        have h25 : decide (s.size ≤ 24) = b24 := by rw [← h24]; exact decide_eq_decide.2 (by omega)
        have HB := Aside0.mk (show nameOk (byts s) = b24 by
          rw [nameOk_eq, HGT.out, hbl, h25]
          cases hb : byts s with
          | nil => rw [hb] at hbl; exact absurd hbl.symm h0
          | cons c r => rfl)
        clear hbl h0
        go_wp2
        go_ret
        exact ⟨ret_bool (by rw [← HR.out, HB.out]), n, rfl⟩
end Go.Proofs.YtgddmfphlhlcjaaDoor.FcW
namespace Go.Proofs.YtgddmfphlhlcjaaDoor.FcW
open Go.RowKit Go.Proofs.YtgddmfphlhlcjaaDoorW.PrintWords Go.Proofs.YtgddmfphlhlcjaaDoorW.PrintLast Go.Proofs.YtgddmfphlhlcjaaDoorW.PrintMore
open Go.Proofs.YtgddmfphlhlcjaaDoor Go.Proofs.YtgddmfphlhlcjaaDoor.PF Go.Proofs.YtgddmfphlhlcjaaDoor.LxP Go.Proofs.YtgddmfphlhlcjaaDoor.LxW Go.Proofs.YtgddmfphlhlcjaaDoor.FcP
set_option linter.unusedVariables false
set_option linter.unusedSimpArgs false

theorem wrap_id {x : Int} (h1 : -9223372036854775808 ≤ x) (h2 : x ≤ 9223372036854775807) : wrap64 x = x := by
  unfold wrap64; omega
/-! a map from names, of the call's own -/
theorem ownsMap_below {H : Type} {P : Program} {k : TypeId} {R : Value → Option (DataW H × List MemPlace)} {b n : Nat} {D : DataW H} {w w' : World} (h : w.ownsMap P k R b n D) (hb : Below w.heap.size w w') : w'.ownsMap P k R b n D := by
  have hlt := h.lt
  obtain ⟨es, clock, e, F, hs, hD⟩ := h
  exact ⟨es, clock, (hb.block b hlt).trans e, F, hs, hD⟩
theorem law9 : Go.Maps.Keyed Tryd.prog 9 := Go.Maps.string_keyed Tryd.underlying9
theorem key9 {s : ByteArray} (hs : s.size ≤ 1000000) : keyOf Tryd.prog 9 (.string s) = some (.string s.data.toList) := Go.WideMaps.keyOf_string_mk Tryd.underlying9 (by unfold maxLen; omega)

/-- The names that stand in the map. -/
def SeenIs (D : DataW Unit) (xs : List (List UInt8)) : Prop := Go.Maps.IsMap D ∧ ∀ n : List UInt8, D.atKey (.string n) (.lit (.bool false)) = .lit (.bool (decide (n ∈ xs)))
theorem SeenIs.nil : SeenIs (.map []) [] := ⟨⟨[], rfl⟩, fun n => by simp [DataW.atKey]⟩
theorem SeenIs.put {D : DataW Unit} {xs : List (List UInt8)} (h : SeenIs D xs) (n : List UInt8) : SeenIs (D.put (.string n) (.lit (.bool true))) (xs ++ [n]) := by
  obtain ⟨h1, h2⟩ := h
  refine ⟨?_, ?_⟩
  · obtain ⟨es, rfl⟩ := h1
    exact ⟨_, rfl⟩
  · intro m
    by_cases e : m = n
    · subst e
      rw [Go.Maps.atKey_put_same h1 (by trivial)]
      simp
    · rw [Go.Maps.atKey_put_other (by simpa using e), h2 m]
      simp [e]
end Go.Proofs.YtgddmfphlhlcjaaDoor.FcW
