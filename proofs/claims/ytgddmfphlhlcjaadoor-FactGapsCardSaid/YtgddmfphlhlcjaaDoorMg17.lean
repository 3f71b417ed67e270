/- What the small functions answer, in plain words: few, Less, Equal, Same, Least, Next, apart.
strings.Builder.WriteString at this program: the contracts of the kit's shelf.
fact.Text and fact.CaseText tell the canonical texts. -/
import Derived.Test.YtgddmfphlhlcjaaDoorMg13
import Derived.Test.YtgddmfphlhlcjaaDoorMg7
import Derived.Test.YtgddmfphlhlcjaaDoorMg14
import Derived.Test.YtgddmfphlhlcjaaDoorMg15
import Derived.Test.YtgddmfphlhlcjaaDoorMg16
import Derived.Test.YtgddmfphlhlcjaaDoorShelf
import Derived.Shelf.Strings.Builder1
import Derived.Shelf.Strings.Builder2
import Derived.Test.YtgddmfphlhlcjaaDoorMg12
import Derived.Shelf.Unicode.PredsPay
import Derived.Lib.AppendIntMem
namespace Go.Proofs.YtgddmfphlhlcjaaDoor.FcW
open Go.RowKit Go.Proofs.YtgddmfphlhlcjaaDoorW.PrintWords Go.Proofs.YtgddmfphlhlcjaaDoorW.PrintLast Go.Proofs.YtgddmfphlhlcjaaDoorW.PrintMore
open Go.Proofs.YtgddmfphlhlcjaaDoor Go.Proofs.YtgddmfphlhlcjaaDoor.PF Go.Proofs.YtgddmfphlhlcjaaDoor.LxP Go.Proofs.YtgddmfphlhlcjaaDoor.LxW Go.Proofs.YtgddmfphlhlcjaaDoor.FcP
set_option linter.unusedVariables false
set_option linter.unusedSimpArgs false

theorem rd_get {l : List Int} {i : Nat} (h : i < l.length) : rd l (i : Int) = l[i] := by
  unfold rd
  rw [Int.toNat_natCast, List.getD_eq_getElem?_getD, List.getElem?_eq_getElem h]
  rfl
theorem rdT_get {l : List S42} {i : Nat} (h : i < l.length) : rd_T42 l (i : Int) = l[i] := by
  unfold rd_T42
  rw [Int.toNat_natCast, List.getD_eq_getElem?_getD, List.getElem?_eq_getElem h]
  rfl
theorem rdT7_get {l : List S77} {i : Nat} (h : i < l.length) : rd_T77 l (i : Int) = l[i] := by
  unfold rd_T77
  rw [Int.toNat_natCast, List.getD_eq_getElem?_getD, List.getElem?_eq_getElem h]
  rfl
theorem wrap_succ {i : Nat} (h : i ≤ 1000000000000000000) : wrap64 ((i : Int) + 1) = ((i + 1 : Nat) : Int) := by
  rw [wrap_id (by omega) (by omega)]
  rfl
/-! few -/
def fewB (l : List S42) : Bool := (l.take 70).all (fun f => decide (f.f0.size ≤ 100)) && decide (l.length ≤ 70)
theorem few_from (l : List S42) : ∀ (n i k : Nat), 70 - i = n → i ≤ 70 → 2 * n + 2 < k → customhouseref24_Few.l0 k 70 i l = some (((l.take 70).drop i).all (fun f => decide (f.f0.size ≤ 100)) && decide (l.length ≤ 70)) := by
  intro n
  induction n with
  | zero =>
    intro i k h1 h2 h3
    obtain ⟨k, rfl⟩ : ∃ m, k = m + 2 := ⟨k - 2, by omega⟩
    have hi : i = 70 := by omega
    subst hi
    rw [List.drop_of_length_le (by rw [List.length_take]; omega)]
    simp only [customhouseref24_Few.l0, customhouseref24_Few.j1]
    by_cases hc : ((70 : Nat) : Int) < (l.length : Int)
    · rw [if_pos hc, show decide (((70 : Nat) : Int) < 70) = false from rfl]
      rw [if_neg (by decide), List.all_nil, Bool.true_and]
      congr 1
      exact decide_eq_decide.2 (by omega)
    · rw [if_neg hc, if_neg (by decide), List.all_nil, Bool.true_and]
      congr 1
      exact decide_eq_decide.2 (by omega)
  | succ n ih =>
    intro i k h1 h2 h3
    obtain ⟨k, rfl⟩ : ∃ m, k = m + 2 := ⟨k - 2, by omega⟩
    simp only [customhouseref24_Few.l0, customhouseref24_Few.j1]
    by_cases hi : i < l.length
    · rw [if_pos (show (i : Int) < (l.length : Int) by omega), show decide ((i : Int) < 70) = true from decide_eq_true (by omega), if_pos rfl, if_pos (show (0 : Int) ≤ (i : Int) by omega), if_pos (show (i : Int) < (l.length : Int) by omega), rdT_get hi, wrap_succ (by omega)]
      have hd : (l.take 70).drop i = l[i] :: (l.take 70).drop (i + 1) := by
        have ht : i < (l.take 70).length := by rw [List.length_take]; omega
        rw [List.drop_eq_getElem_cons ht, List.getElem_take]
      rw [hd, List.all_cons]
      by_cases hs : ((l[i].f0).size : Int) > 100
      · rw [if_pos hs, show decide (l[i].f0.size ≤ 100) = false from decide_eq_false (by omega)]
        rfl
      · rw [if_neg hs, show decide (l[i].f0.size ≤ 100) = true from decide_eq_true (by omega), Bool.true_and]
        exact ih (i + 1) k (by omega) (by omega) (by omega)
    · rw [if_neg (show ¬ (i : Int) < (l.length : Int) by omega), if_neg (by decide), List.drop_of_length_le (by rw [List.length_take]; omega), List.all_nil, Bool.true_and]
      congr 1
      exact decide_eq_decide.2 (by omega)
theorem few_any (A0 : Option Addr) (c0 : Nat) (l0 : List S42) (A1 : Option Addr) (c1 : Nat) (l1 : List Int) (w : World) (hr0 : Kd.C k42 w A0 l0.length l0) (hc0 : l0.length ≤ c0) (hr1 : Kd.C (Kd.int .i64) w A1 l1.length l1) (hc1 : l1.length ≤ c1) (b : Bool) (hb : (fewB l0 && decide (l1.length ≤ 70)) = b) :
    Calls Tryd.prog 9 #[.agg #[.slice A0 l0.length c0], .slice A1 l1.length c1] w fun e w' => e = .returned (.bool b) ∧ Below w.heap.size w w' := by
  subst hb
  refine customhouselaw24_few.calls 1000 A0 c0 l0 A1 c1 l1 _ w hr0 hc0 hr1 hc1 ?_
  have h := few_from l0 70 0 1000 (by omega) (by omega) (by omega)
  unfold customhouselaw24_few.f customhouseref24_Few.f
  have h' : customhouseref24_Few.l0 1000 70 0 l0 = some (fewB l0) := h
  rw [h', Option.bind_some]
  cases fewB l0 with
  | false => rfl
  | true =>
    rw [if_pos rfl]
    congr 1
    rw [Bool.true_and]
    exact decide_eq_decide.2 (by omega)
theorem few_small {l : List S42} (h : fewB l = true) : Small l ∧ l.length ≤ 70 := by
  unfold fewB at h
  simp only [Bool.and_eq_true, decide_eq_true_eq] at h
  rw [List.take_of_length_le h.2, List.all_eq_true] at h
  exact ⟨⟨by omega, fun f hf => by have := of_decide_eq_true (h.1 f hf); omega⟩, h.2⟩
/-! Less -/
theorem less_from (a b : List Int) (ha : a.length ≤ 1000000000000000000) : ∀ (n i k : Nat), a.length - i = n → 2 * n + 2 < k → customhouseref24_Less.l0 k a b i = some (less (a.drop i) (b.drop i)) := by
  intro n
  induction n with
  | zero =>
    intro i k h1 h2
    obtain ⟨k, rfl⟩ : ∃ m, k = m + 2 := ⟨k - 2, by omega⟩
    simp only [customhouseref24_Less.l0, customhouseref24_Less.j1]
    rw [if_neg (show ¬ (i : Int) < (a.length : Int) by omega), if_neg (by decide), List.drop_of_length_le (show a.length ≤ i by omega)]
    simp [less]
  | succ n ih =>
    intro i k h1 h2
    obtain ⟨k, rfl⟩ : ∃ m, k = m + 2 := ⟨k - 2, by omega⟩
    have hi : i < a.length := by omega
    simp only [customhouseref24_Less.l0, customhouseref24_Less.j1]
    rw [if_pos (show (i : Int) < (a.length : Int) by omega), List.drop_eq_getElem_cons hi]
    by_cases hb : i < b.length
    · rw [show decide ((i : Int) < (b.length : Int)) = true from decide_eq_true (by omega), if_pos rfl, if_pos (show (0 : Int) ≤ (i : Int) by omega), if_pos (show (i : Int) < (a.length : Int) by omega), if_pos (show (i : Int) < (b.length : Int) by omega), rd_get hi, rd_get hb, wrap_succ (by omega), List.drop_eq_getElem_cons hb]
      simp only [less]
      by_cases e : a[i] = b[i]
      · rw [if_pos e, if_pos e]
        exact ih (i + 1) k (by omega) (by omega)
      · rw [if_neg e, if_neg e]
    · rw [show decide ((i : Int) < (b.length : Int)) = false from decide_eq_false (by omega), if_neg (by decide), List.drop_of_length_le (show b.length ≤ i by omega)]
      simp [less]
theorem drawn_below {w w' : World} (h : Drawn0 w w') : Below w.heap.size w w' := h.below
theorem less_any (A0 : Option Addr) (c0 : Nat) (a : List Int) (A1 : Option Addr) (c1 : Nat) (b : List Int) (w : World) (hr0 : Kd.C (Kd.int .i64) w A0 a.length a) (hc0 : a.length ≤ c0) (hr1 : Kd.C (Kd.int .i64) w A1 b.length b) (hc1 : b.length ≤ c1) (hm : a.length ≤ 1000000000000000000) (r : Bool) (hb : less a b = r) :
    Calls Tryd.prog 19 #[.slice A0 a.length c0, .slice A1 b.length c1] w fun e w' => e = .returned (.bool r) ∧ Below w.heap.size w w' := by
  subst hb
  refine (customhouseref24_Less.calls (2 * a.length + 3) A0 c0 a A1 c1 b _ w hr0 hc0 hr1 hc1 (less_from a b hm a.length 0 _ (by omega) (by omega))).mono ?_
  rintro e w' ⟨h1, h2⟩
  exact ⟨h1, h2.below⟩
/-! Equal -/
theorem equal_from (a b : List Int) (hl : a.length = b.length) (ha : a.length ≤ 1000000000000000000) : ∀ (n i k : Nat), a.length - i = n → n < k → customhouseref24_Equal.l0 k a b i = some (decide (a.drop i = b.drop i)) := by
  intro n
  induction n with
  | zero =>
    intro i k h1 h2
    obtain ⟨k, rfl⟩ : ∃ m, k = m + 1 := ⟨k - 1, by omega⟩
    simp only [customhouseref24_Equal.l0]
    rw [if_neg (show ¬ (i : Int) < (a.length : Int) by omega), List.drop_of_length_le (show a.length ≤ i by omega), List.drop_of_length_le (show b.length ≤ i by omega)]
    rfl
  | succ n ih =>
    intro i k h1 h2
    obtain ⟨k, rfl⟩ : ∃ m, k = m + 1 := ⟨k - 1, by omega⟩
    have hi : i < a.length := by omega
    have hb : i < b.length := by omega
    simp only [customhouseref24_Equal.l0]
    rw [if_pos (show (i : Int) < (a.length : Int) by omega), if_pos (show (0 : Int) ≤ (i : Int) by omega), if_pos (show (i : Int) < (b.length : Int) by omega), rd_get hi, rd_get hb, wrap_succ (by omega), List.drop_eq_getElem_cons hi, List.drop_eq_getElem_cons hb]
    by_cases e : a[i] = b[i]
    · rw [if_pos e, ih (i + 1) k (by omega) (by omega)]
      congr 1
      exact decide_eq_decide.2 ⟨fun h => by rw [h, e], fun h => (List.cons.inj h).2⟩
    · rw [if_neg e]
      congr 1
      symm
      exact decide_eq_false fun h => e (by injection h)
theorem equal_any (A0 : Option Addr) (c0 : Nat) (a : List Int) (A1 : Option Addr) (c1 : Nat) (b : List Int) (w : World) (hr0 : Kd.C (Kd.int .i64) w A0 a.length a) (hc0 : a.length ≤ c0) (hr1 : Kd.C (Kd.int .i64) w A1 b.length b) (hc1 : b.length ≤ c1) (hm : a.length ≤ 1000000000000000000) (r : Bool) (hb : decide (a = b) = r) :
    Calls Tryd.prog 17 #[.slice A0 a.length c0, .slice A1 b.length c1] w fun e w' => e = .returned (.bool r) ∧ Below w.heap.size w w' := by
  subst hb
  refine (customhouseref24_Equal.calls (a.length + 1) A0 c0 a A1 c1 b (decide (a = b)) w hr0 hc0 hr1 hc1 ?_).mono ?_
  · unfold customhouseref24_Equal.f
    by_cases hl : a.length = b.length
    · rw [if_pos (by omega)]
      exact equal_from a b hl hm a.length 0 _ (by omega) (by omega)
    · rw [if_neg (by omega)]
      congr 1
      symm
      exact decide_eq_false fun h => hl (by rw [h])
  · rintro e w' ⟨h1, h2⟩
    exact ⟨h1, h2.below⟩
/-! Same -/
theorem toF_inj {f g : S42} : toF f = toF g ↔ f = g := by
  constructor
  · intro h
    obtain ⟨a, b, c, d⟩ := f
    obtain ⟨a', b', c', d'⟩ := g
    unfold toF at h
    injection h with h1 h2 h3 h4
    have := byts_inj h1
    subst this; subst h2; subst h3; subst h4
    rfl
  · intro h; rw [h]
theorem differ_iff (f g : S42) : (!((f.f0.toList) == (g.f0.toList)) || (!(f.f1 == g.f1) || (!(f.f2 == g.f2) || (!(f.f3 == g.f3))))) = !decide (toF f = toF g) := by
  rw [ByteArray.toList_eq, ByteArray.toList_eq]
  have e : ∀ x y : Bool, x = !y ↔ (x = true ↔ ¬ y = true) := by decide
  rw [e, decide_eq_true_eq]
  unfold toF byts
  simp only [Bool.or_eq_true, Bool.not_eq_true', beq_eq_false_iff_ne, Fc.mk.injEq, ne_eq]
  by_cases h1 : f.f0.data.toList = g.f0.data.toList <;> by_cases h2 : f.f1 = g.f1 <;> by_cases h3 : f.f2 = g.f2 <;> by_cases h4 : f.f3 = g.f3 <;> simp [h1, h2, h3, h4]
theorem same_from (a b : List S42) (hl : a.length = b.length) (ha : a.length ≤ 1000000000000000000) : ∀ (n i k : Nat), a.length - i = n → n < k → customhouseref24_Same.l0 k i a b = some (decide ((a.map toF).drop i = (b.map toF).drop i)) := by
  intro n
  induction n with
  | zero =>
    intro i k h1 h2
    obtain ⟨k, rfl⟩ : ∃ m, k = m + 1 := ⟨k - 1, by omega⟩
    simp only [customhouseref24_Same.l0]
    rw [if_neg (show ¬ (i : Int) < (a.length : Int) by omega), List.drop_of_length_le (show (a.map toF).length ≤ i by rw [List.length_map]; omega), List.drop_of_length_le (show (b.map toF).length ≤ i by rw [List.length_map]; omega)]
    rfl
  | succ n ih =>
    intro i k h1 h2
    obtain ⟨k, rfl⟩ : ∃ m, k = m + 1 := ⟨k - 1, by omega⟩
    have hi : i < a.length := by omega
    have hb : i < b.length := by omega
    have hi' : i < (a.map toF).length := by rw [List.length_map]; exact hi
    have hb' : i < (b.map toF).length := by rw [List.length_map]; exact hb
    simp only [customhouseref24_Same.l0]
    rw [if_pos (show (i : Int) < (a.length : Int) by omega), if_pos (show (0 : Int) ≤ (i : Int) by omega), if_pos (show (i : Int) < (b.length : Int) by omega), rdT_get hi, rdT_get hb, wrap_succ (by omega), List.drop_eq_getElem_cons hi', List.drop_eq_getElem_cons hb', differ_iff, List.getElem_map, List.getElem_map]
    by_cases e : toF a[i] = toF b[i]
    · rw [decide_eq_true e, if_neg (by decide), ih (i + 1) k (by omega) (by omega)]
      congr 1
      exact decide_eq_decide.2 ⟨fun h => by rw [h, e], fun h => (List.cons.inj h).2⟩
    · rw [decide_eq_false e, if_pos (by decide)]
      congr 1
      symm
      exact decide_eq_false fun h => e (by injection h)
theorem same_any (A0 : Option Addr) (c0 : Nat) (a : List S42) (A1 : Option Addr) (c1 : Nat) (b : List S42) (w : World) (hr0 : Kd.C k42 w A0 a.length a) (hc0 : a.length ≤ c0) (hr1 : Kd.C k42 w A1 b.length b) (hc1 : b.length ≤ c1) (hm : a.length ≤ 1000000000000000000) (r : Bool) (hb : decide (a.map toF = b.map toF) = r) :
    Calls Tryd.prog 13 #[.agg #[.slice A0 a.length c0], .agg #[.slice A1 b.length c1]] w fun e w' => e = .returned (.bool r) ∧ Below w.heap.size w w' := by
  subst hb
  refine customhouseref24_Same.calls (a.length + 1) A0 c0 a A1 c1 b _ w hr0 hc0 hr1 hc1 ?_
  unfold customhouseref24_Same.f
  by_cases hl : a.length = b.length
  · rw [if_pos (by omega)]
    exact same_from a b hl hm a.length 0 _ (by omega) (by omega)
  · rw [if_neg (by omega)]
    congr 1
    symm
    exact decide_eq_false fun h => hl (by have := congrArg List.length h; rwa [List.length_map, List.length_map] at this)
/-! Least -/
theorem least_from (l : List S42) (hl : l.length ≤ 1000000000) : ∀ (n i k : Nat), l.length - i = n → n < k → i ≤ l.length → ∀ acc : List Int, acc.length = i → fact_Least.l0 k acc l (l.length : Int) i = some (acc ++ ((l.map toF).map (·.lo)).drop i) := by
  intro n
  induction n with
  | zero =>
    intro i k h1 h2 h3 acc h4
    obtain ⟨k, rfl⟩ : ∃ m, k = m + 1 := ⟨k - 1, by omega⟩
    simp only [fact_Least.l0]
    rw [if_neg (show ¬ (i : Int) < (l.length : Int) by omega), List.drop_of_length_le (by rw [List.length_map, List.length_map]; omega), List.append_nil]
  | succ n ih =>
    intro i k h1 h2 h3 acc h4
    obtain ⟨k, rfl⟩ : ∃ m, k = m + 1 := ⟨k - 1, by omega⟩
    have hi : i < l.length := by omega
    have hi' : i < ((l.map toF).map (·.lo)).length := by rw [List.length_map, List.length_map]; exact hi
    simp only [fact_Least.l0]
    rw [if_pos (show (i : Int) < (l.length : Int) by omega), if_pos (show (0 : Int) ≤ (i : Int) by omega), if_pos (show (i : Int) < (l.length : Int) by omega), if_pos (by omega), rdT_get hi, wrap_succ (by omega), ih (i + 1) k (by omega) (by omega) (by omega) _ (by rw [List.length_append, h4]; rfl), List.drop_eq_getElem_cons hi', List.getElem_map, List.getElem_map, List.append_assoc]
    rfl
theorem least_any (A : Option Addr) (c : Nat) (l : List S42) (w : World) (hr : Kd.C k42 w A l.length l) (hc : l.length ≤ c) (hs : Small l) (hv : Valid (l.map toF)) :
    Calls Tryd.prog 18 #[.agg #[.slice A l.length c]] w fun e w' => ∃ v : Value, e = .returned v ∧ Kd.R (Kd.int .i64) 3 w' w.heap.size (fun _ => True) v ((l.map toF).map (·.lo)) ∧ Below w.heap.size w w' := by
  refine fact_Least.calls (l.length + 1) A c l _ w hr hc ?_
  unfold fact_Least.f fact_Valid.f
  rw [if_pos hs, decide_eq_true hv, Option.bind_some, if_pos rfl]
  have := least_from l (by have := hs.1; omega) l.length 0 (l.length + 1) (by omega) (by omega) (by omega) [] rfl
  exact this
/-! Next -/
theorem next_skip {d : List Fc} {c : List Int} (hl : c.length = d.length) : ∀ (i : Nat) (hi : i < d.length) (hc : i < c.length), nextL (d.drop i) (c.drop i) = match nextL (d.drop (i + 1)) (c.drop (i + 1)) with
    | some n => some (c[i] :: n)
    | none => if c[i] < d[i].hi then some ((c[i] + 1) :: (d.drop (i + 1)).map (·.lo)) else none := by
  intro i hi hc
  rw [List.drop_eq_getElem_cons hi, List.drop_eq_getElem_cons hc]
  rfl
/-- The digits from i on stand at their least values. -/
def lows (d : List Fc) (c : List Int) (i : Nat) : List Int := c.take i ++ (d.drop i).map (·.lo)
theorem lows_len {d : List Fc} {c : List Int} (hl : c.length = d.length) {i : Nat} (hi : i ≤ d.length) : (lows d c i).length = d.length := by
  unfold lows
  rw [List.length_append, List.length_take, List.length_map, List.length_drop]
  omega
theorem lows_get {d : List Fc} {c : List Int} (hl : c.length = d.length) {i : Nat} (hi : i + 1 ≤ d.length) (h : i < (lows d c (i + 1)).length) : (lows d c (i + 1))[i] = c[i]'(by omega) := by
  have h1 : (lows d c (i + 1))[i]? = some (c[i]'(by omega)) := by
    unfold lows
    rw [List.getElem?_append_left (by rw [List.length_take]; omega), List.getElem?_take, if_pos (by omega), List.getElem?_eq_getElem (by omega)]
  rw [List.getElem?_eq_getElem h] at h1
  exact Option.some.inj h1
theorem lows_set {d : List Fc} {c : List Int} (hl : c.length = d.length) {i : Nat} (hi : i < d.length) (x : Int) : (lows d c (i + 1)).set i x = c.take i ++ x :: (d.drop (i + 1)).map (·.lo) := by
  unfold lows
  rw [List.set_append_left _ _ (by rw [List.length_take]; omega), List.take_add_one, List.getElem?_eq_getElem (by omega), Option.toList_some, List.set_append_right _ _ (by rw [List.length_take]; omega), List.length_take, Nat.min_eq_left (by omega), Nat.sub_self, List.set_cons_zero, List.append_assoc]
  rfl
theorem next_from (l : List S42) (c : List Int) (hl : c.length = l.length) (hm : l.length ≤ 1000000) (hb : ∀ x ∈ c, -9223372036854775808 ≤ x ∧ x < 9223372036854775807) : ∀ (i k : Nat), i ≤ l.length → i < k → nextL ((l.map toF).drop i) (c.drop i) = none →
    fact_Next.l0 k (lows (l.map toF) c i) ((i : Int) - 1) l = some (match nextL (l.map toF) c with | some n => (n, true) | none => ([], false)) := by
  have hl' : c.length = (l.map toF).length := by rw [List.length_map]; exact hl
  intro i
  induction i with
  | zero =>
    intro k h1 h2 h3
    obtain ⟨k, rfl⟩ : ∃ m, k = m + 1 := ⟨k - 1, by omega⟩
    simp only [fact_Next.l0]
    rw [List.drop_zero, List.drop_zero] at h3
    rw [if_neg (by omega), h3]
  | succ i ih =>
    intro k h1 h2 h3
    obtain ⟨k, rfl⟩ : ∃ m, k = m + 1 := ⟨k - 1, by omega⟩
    have hi : i < l.length := by omega
    have hi' : i < (l.map toF).length := by rw [List.length_map]; exact hi
    have hic : i < c.length := by omega
    have hlen := lows_len hl' (i := i + 1) (by omega)
    simp only [fact_Next.l0]
    rw [show (((i + 1 : Nat) : Int) - 1) = (i : Int) by omega]
    have hil : i < (lows (l.map toF) c (i + 1)).length := by rw [hlen]; exact hi'
    have hlm : (l.map toF).length = l.length := List.length_map ..
    rw [if_pos (by omega), if_pos (by omega), if_pos (by omega), if_pos (by omega), rd_get hil, rdT_get hi, lows_get hl' (by omega) hil]
    have hsk := next_skip hl' i hi' hic
    rw [h3] at hsk
    simp only at hsk
    have hhi : (l.map toF)[i].hi = l[i].f3 := by rw [List.getElem_map]; rfl
    have hbi := hb c[i] (List.getElem_mem hic)
    have hup : ∀ m, i ≤ m → True := fun _ _ => trivial
    by_cases hlt : c[i] < l[i].f3
    · rw [if_pos hlt, Int.toNat_natCast, wrap_id (by omega) (by omega), lows_set hl' hi']
      rw [hhi, if_pos hlt] at hsk
      have key : ∀ j, j ≤ i → nextL ((l.map toF).drop (i - j)) (c.drop (i - j)) = some ((c.take i).drop (i - j) ++ (c[i] + 1) :: ((l.map toF).drop (i + 1)).map (·.lo)) := by
        intro j
        induction j with
        | zero =>
          intro _
          rw [Nat.sub_zero, hsk, show (c.take i).drop i = [] from List.drop_of_length_le (by rw [List.length_take]; omega)]
          rfl
        | succ j ihj =>
          intro hj
          have hs := next_skip hl' (i - (j + 1)) (by omega) (by omega)
          rw [show i - (j + 1) + 1 = i - j by omega, ihj (by omega)] at hs
          rw [hs]
          simp only
          have hd : (c.take i).drop (i - (j + 1)) = c[i - (j + 1)] :: (c.take i).drop (i - j) := by
            have ht : i - (j + 1) < (c.take i).length := by rw [List.length_take]; omega
            rw [List.drop_eq_getElem_cons ht, List.getElem_take, show i - (j + 1) + 1 = i - j by omega]
          rw [hd]
          rfl
      have := key i (Nat.le_refl _)
      rw [Nat.sub_self, List.drop_zero, List.drop_zero, List.drop_zero] at this
      rw [this]
    · rw [if_neg hlt, Int.toNat_natCast, lows_set hl' hi']
      rw [hhi, if_neg hlt] at hsk
      have e : c.take i ++ l[i].f2 :: ((l.map toF).drop (i + 1)).map (·.lo) = lows (l.map toF) c i := by
        unfold lows
        rw [List.drop_eq_getElem_cons hi', List.map_cons, List.getElem_map]
        rfl
      rw [e, wrap_id (by omega) (by omega)]
      exact ih k (by omega) (by omega) hsk
theorem next_any (A : Option Addr) (c : Nat) (l : List S42) (A1 : Option Addr) (c1 : Nat) (a : List Int) (w : World) (hr : Kd.C k42 w A l.length l) (hc : l.length ≤ c) (hr1 : Kd.C (Kd.int .i64) w A1 a.length a) (hc1 : a.length ≤ c1) (hs : Small l) (hf : Fits (l.map toF) a) (n : List Int) (b : Bool) (hn : (match nextL (l.map toF) a with | some n => (n, true) | none => ([], false)) = (n, b)) :
    Calls Tryd.prog 20 #[.agg #[.slice A l.length c], .slice A1 a.length c1] w fun e w' => ∃ v : Value, e = .returned (.tuple #[v, .bool b]) ∧ Kd.R (Kd.int .i64) 3 w' w.heap.size (fun _ => True) v n ∧ Below w.heap.size w w' := by
  have hl : a.length = l.length := by have := within_length hf.2; rwa [List.length_map] at this
  have hm := hs.1
  refine fact_Next.calls (l.length + 1) A c l A1 c1 a n b w hr hc hr1 hc1 ?_
  unfold fact_Next.f fact_Fits.f api_Case_int.f
  rw [if_pos hs, decide_eq_true hf, Option.bind_some, if_pos rfl, if_pos (by omega), Option.bind_some, ← hn, wrap_id (by omega) (by omega)]
  have h := next_from l a hl hm (fun x hx => ?_) l.length (l.length + 1) (Nat.le_refl _) (by omega) (by rw [List.drop_of_length_le (by rw [List.length_map]; omega)]; rfl)
  · have e : lows (l.map toF) a l.length = a := by
      unfold lows
      rw [List.take_of_length_le (by omega), List.drop_of_length_le (by rw [List.length_map]; omega)]
      simp
    rw [e] at h
    rw [hl]
    exact h
  · obtain ⟨i, hi, rfl⟩ := List.getElem_of_mem hx
    have hi' : i < (l.map toF).length := by rw [List.length_map]; omega
    have h1 := ((FcP.within_iff _ _).1 hf.2).2 i _ a[i] (List.getElem?_eq_getElem hi') (List.getElem?_eq_getElem hi)
    have h2 := (fact_cases (hf.1.1 _ (List.getElem_mem hi'))).2
    omega
end Go.Proofs.YtgddmfphlhlcjaaDoor.FcW
namespace Go.Proofs
open Go.Shelf
def Tryd.laysW_ren : Go.Shelf.Ren := ⟨fun | 240 => 44 | 276 => 56 | 166 => 25 | n => n, fun | 0 => 0 | 3 => 3 | 4 => 4 | 5 => 5 | 9 => 9 | 20 => 20 | 37 => 54 | 46 => 115 | 70 => 53 | 72 => 56 | 75 => 60 | 80 => 64 | 127 => 91 | 164 => 103 | n => n, fun | n => n⟩
theorem Tryd.laysW240 : Go.Proofs.Lays.n240 Tryd.prog Tryd.laysW_ren := {
  mixed := by kernel_rfl
  f240 := Tryd.func44.trans (congrArg some (by kernel_rfl))
  f276 := Tryd.func56.trans (congrArg some (by kernel_rfl))
  t0 := Tryd.underlying0
  a0 := Tryd.isAgg0
  z0 := Tryd.sizeOf0
  v0 := Tryd.zeroValue0
  t4 := Tryd.underlying4
  a4 := Tryd.isAgg4
  z4 := Tryd.sizeOf4
  v4 := Tryd.zeroValue4
  t9 := Tryd.underlying9
  a9 := Tryd.isAgg9
  z9 := Tryd.sizeOf9
  v9 := Tryd.zeroValue9
  t20 := Tryd.underlying20
  a20 := Tryd.isAgg20
  z20 := Tryd.sizeOf20
  v20 := Tryd.zeroValue20
  t70 := Tryd.underlying53
  a70 := Tryd.isAgg53
  z70 := Tryd.sizeOf53
  v70 := Tryd.zeroValue53
  t72 := Tryd.underlying56
  a72 := Tryd.isAgg56
  z72 := Tryd.sizeOf56
  v72 := Tryd.zeroValue56
  t164 := Tryd.underlying103
  a164 := Tryd.isAgg103
  z164 := Tryd.sizeOf103
  v164 := Tryd.zeroValue103 }
theorem Tryd.laysW166 : Go.Proofs.Lays.n166 Tryd.prog Tryd.laysW_ren := {
  mixed := by kernel_rfl
  f166 := Tryd.func25.trans (congrArg some (by kernel_rfl))
  f240 := Tryd.func44.trans (congrArg some (by kernel_rfl))
  f276 := Tryd.func56.trans (congrArg some (by kernel_rfl))
  t0 := Tryd.underlying0
  a0 := Tryd.isAgg0
  z0 := Tryd.sizeOf0
  v0 := Tryd.zeroValue0
  t3 := Tryd.underlying3
  a3 := Tryd.isAgg3
  z3 := Tryd.sizeOf3
  v3 := Tryd.zeroValue3
  t4 := Tryd.underlying4
  a4 := Tryd.isAgg4
  z4 := Tryd.sizeOf4
  v4 := Tryd.zeroValue4
  t9 := Tryd.underlying9
  a9 := Tryd.isAgg9
  z9 := Tryd.sizeOf9
  v9 := Tryd.zeroValue9
  t20 := Tryd.underlying20
  a20 := Tryd.isAgg20
  z20 := Tryd.sizeOf20
  v20 := Tryd.zeroValue20
  t37 := Tryd.underlying54
  a37 := Tryd.isAgg54
  z37 := Tryd.sizeOf54
  v37 := Tryd.zeroValue54
  t70 := Tryd.underlying53
  a70 := Tryd.isAgg53
  z70 := Tryd.sizeOf53
  v70 := Tryd.zeroValue53
  t72 := Tryd.underlying56
  a72 := Tryd.isAgg56
  z72 := Tryd.sizeOf56
  v72 := Tryd.zeroValue56
  t75 := Tryd.underlying60
  a75 := Tryd.isAgg60
  z75 := Tryd.sizeOf60
  v75 := Tryd.zeroValue60
  t164 := Tryd.underlying103
  a164 := Tryd.isAgg103
  z164 := Tryd.sizeOf103
  v164 := Tryd.zeroValue103 }
theorem Tryd.Builder_X72_W : Builder.X72 Tryd.prog Tryd.laysW_ren := {
  sizeBuilder := by kernel_rfl
  liesBuilder := by kernel_rfl }
theorem Tryd.Builder_Extra_W : Builder.Extra Tryd.prog Tryd.laysW_ren := {
  sizeBuilder := by kernel_rfl
  liesBuilder := by kernel_rfl
  t5 := Tryd.underlying5
  a5 := Tryd.isAgg5
  z5 := Tryd.sizeOf5
  v5 := Tryd.zeroValue5
  infoByte := by kernel_rfl
  cellsByte := by kernel_rfl
  sizeByte := by kernel_rfl
  neB5 := by decide }
open Go.RowKit in
/-- What is written stands behind what the builder held. -/
theorem Tryd.Builder_WriteString_own (B b : Nat) (bs : List Value) (s : ByteArray) (w : World) (h : Lib.IsBuilder 56 5 B b bs w) (hlen : bs.length + s.size ≤ 140737488355328) (hBw : B ≤ w.heap.size) :
    Calls Tryd.prog 25 #[.pointer (some ⟨b, 0, none⟩), .string s] w fun e w' => e = .returned (.tuple #[.int .i64 s.size, .nilIface]) ∧ (Lib.BuilderAt 56 5 B b (.pointer (some ⟨b, 0, none⟩)) (bs ++ Lib.strCells s) w' ∧ Below B w w') := Any.Builder_WriteString Tryd.laysW166 Tryd.Builder_Extra_W B b bs s w h hlen hBw
end Go.Proofs
namespace Go.Proofs.YtgddmfphlhlcjaaDoor.FcW
open Go.RowKit Go.Proofs.YtgddmfphlhlcjaaDoorW.PrintWords Go.Proofs.YtgddmfphlhlcjaaDoorW.PrintLast Go.Proofs.YtgddmfphlhlcjaaDoorW.PrintMore
open Go.Proofs.YtgddmfphlhlcjaaDoor Go.Proofs.YtgddmfphlhlcjaaDoor.PF Go.Proofs.YtgddmfphlhlcjaaDoor.LxP Go.Proofs.YtgddmfphlhlcjaaDoor.LxW Go.Proofs.YtgddmfphlhlcjaaDoor.FcP
set_option linter.unusedVariables false
set_option linter.unusedSimpArgs false

/-- The table of powers of ten, which strconv.Itoa reads. -/
def Tab (w : World) : Prop := Lib.TabIs Tryd.prog w "internal/strconv.uint64pow10" .u64 Lib.pow10Tab
theorem Tab.below {w w' : World} (h : Tab w) (hb : Below w.heap.size w w') : Tab w' := TabIs_below (g := 0) (by kernel_rfl) h hb
theorem decN_digits : ∀ (k n : Nat), n < 10 ^ (k + 1) → decN k n = Lib.decDigits n
  | 0, n, h => by
    have hn : n < 10 := by simpa using h
    rw [Lib.decDigits_one hn, decN, Nat.mod_eq_of_lt hn]
  | k + 1, n, h => by
    rw [decN]
    by_cases hn : n < 10
    · rw [if_pos hn, Lib.decDigits_one hn]
    · rw [if_neg hn, Lib.decDigits, dif_neg hn, decN_digits k (n / 10) (by rw [Nat.pow_succ] at h; omega)]
theorem dec_digits (n : Nat) (h : n ≤ 1000000) : dec n = Lib.decDigits n := decN_digits 20 n (Nat.lt_of_le_of_lt h (by decide))
theorem itoa_any (n : Int) (h0 : 0 ≤ n) (h1 : n ≤ 1000000) (w : World) (ht : Tab w) : Calls Tryd.prog 24 #[.int .i64 n] w fun e w' => e = .returned (.string (bs (dec n.toNat))) ∧ Below w.heap.size w w' := by
  refine (Tryd.strconv_Itoa n (by omega) (by omega) w ht).mono ?_
  rintro e w' ⟨rfl, k, os, rfl⟩
  refine ⟨?_, Lib.below_grow _ w (Nat.le_refl _) k os⟩
  have e1 : Lib.itoa n = dec n.toNat := by rw [dec_digits _ (by omega), Lib.itoa, if_neg (by omega)]
  rw [e1]
  rfl
theorem join_own {w : World} {base : Nat} {ok : Nat → Prop} {v : Value} {xs : List ByteArray} (h : Kd.R Kd.string 9 w base ok v xs) (sep : ByteArray) (l : List UInt8) (hl : Lib.join (xs.map byts) (byts sep) = l) (hn : l.length ≤ 1000000) (hx : xs.length ≤ 1000000) :
    Calls Tryd.prog 26 #[v, .string sep] w fun e w' => e = .returned (.string (bs l)) ∧ Below w.heap.size w w' := by
  subst hl
  have hr := Kd.R_reads h
  obtain ⟨A, c, e0, hc, hC⟩ := hr
  subst e0
  cases xs with
  | nil =>
    refine (Tryd.strings_Join_none A c sep w).mono ?_
    rintro e w' ⟨rfl, rfl⟩
    exact ⟨rfl, Below.refl _ _⟩
  | cons x r =>
    have hcell : ∀ (j : Nat) y, (x :: r)[j]? = some y → ∃ ad, A = some ad ∧ w.cell? (ad.add j) = some (.string y) := by
      intro j y hy
      obtain ⟨hj, hy⟩ := List.getElem?_eq_some_iff.1 hy
      obtain ⟨ad, cc, e1, e2, e3, e4⟩ := Kd.C_get hC (⟨#[]⟩ : ByteArray) (j : Int) (by omega) (by omega)
      refine ⟨ad, e1, ?_⟩
      have e5 : cc = [Value.string ((x :: r).getD (j : Int).toNat (⟨#[]⟩ : ByteArray))] := e3
      rw [Int.toNat_natCast, List.getD_eq_getElem?_getD, List.getElem?_eq_getElem hj, hy] at e5
      have := e4 0 (.string y) (by rw [e5]; rfl)
      rw [Int.toNat_natCast] at this
      have e6 : j * Kd.string.sz + 0 = j := by show j * 1 + 0 = j; omega
      rw [e6] at this
      exact this
    obtain ⟨inner, ho⟩ := Kd.R_own h
    obtain ⟨h1, h2⟩ := ho
    rcases h2 with ⟨he, h0⟩ | ⟨bc, cap, cur, he, hb, hh, hnc, hcm, hcs, ht⟩
    · simp at h0
    · injection he with he1 he2 he3
      subst he1
      refine Tryd.strings_Join bc 0 c (x :: r) sep w ?_ (blk_lt hh) (by omega) hc (by unfold byts at hn; omega)
      intro j y hy
      obtain ⟨ad, e1, e2⟩ := hcell j y hy
      injection e1 with e1
      subst e1
      rw [add_plain] at e2
      rw [Nat.zero_add]
      exact e2
theorem bs_append (a b : List UInt8) : bs a ++ bs b = bs (a ++ b) := by
  apply ByteArray.ext
  apply Array.ext'
  simp [bs]
theorem add_str (a b : List UInt8) (y : ByteArray) (hy : y = bs b) (h : a.length + b.length ≤ 1000000) (w : World) : (binOp .add 9 (.string (bs a)) (.string y)).run Tryd.prog w = .ok (.string (bs (a ++ b))) w := by
  subst hy
  have e := bs_append a b
  have h1 : (bs a).size + (bs b).size ≤ 9223372036854775807 := by rw [bs_size, bs_size]; omega
  have h2 : ¬ (9223372036854775807 < (bs a).size + (bs b).size) := by omega
  rw [← e]
  go_simp
theorem lit_own (W : World) (xs : List ByteArray) (h : xs.length ≤ 1000000) : Kd.R Kd.string 9 (W.alloc (.cells (xs.map Value.string).toArray 9)) W.heap.size (fun _ => True) (.slice (some ⟨W.heap.size, 0, none⟩) xs.length xs.length) xs := by
  refine Kd.R_of_own ?_ (fun _ _ => trivial)
  have h2 := World.ownsRow_lit (base := W.heap.size) (e := 9) (size := 1) W (xs.map Value.string).toArray xs.length (Nat.le_refl _) (by unfold maxLen; omega) (by simp)
  simpa [encs] using h2
theorem builder_new {w : World} {g : Nat} (h : w.heap[g]? = some (.cells #[.pointer none, .slice none 0 0] 56 (0, 0))) : Lib.IsBuilder 56 5 g g (Lib.byteCells []) w :=
  .inl ⟨Nat.le_refl _, _, h, own_nil _ _ _ _, by simp [Value.ownBlock]⟩
theorem builder_below {B g : Nat} {l : List Value} {w w' : World} (h : Lib.IsBuilder 56 5 B g l w) (hb : Below w.heap.size w w') : Lib.IsBuilder 56 5 B g l w' := by
  rcases h with ⟨h1, v, h2, h3, h4⟩ | ⟨h1, v, h2, h3, h4⟩
  · exact .inl ⟨h1, v, blk_below h2 hb, pw_own_below h3 hb, h4⟩
  · exact .inr ⟨h1, v, blk_below h2 hb, pw_own_below h3 hb, h4⟩
theorem builder_lt {B g : Nat} {l : List Value} {w : World} (h : Lib.IsBuilder 56 5 B g l w) : g < w.heap.size := by
  rcases h with ⟨h1, v, h2, h3, h4⟩ | ⟨h1, v, h2, h3, h4⟩
  · exact blk_lt h2
  · exact blk_lt h2
theorem cells_more (l m : List UInt8) (s : ByteArray) (h : byts s = m) : Lib.byteCells l ++ Lib.strCells s = Lib.byteCells (l ++ m) := by
  subst h
  unfold Lib.byteCells Lib.strCells byts
  rw [List.map_append]
theorem text_step {d : List Fc} {j : Nat} {f : Fc} (h : d[j]? = some f) : (d.take (j + 1)).flatMap line = (d.take j).flatMap line ++ line f := by
  rw [List.take_add_one, h, List.flatMap_append]
  simp
theorem line_len {f : Fc} (h : factOk f = true) : (line f).length ≤ 70 := by
  obtain ⟨h1, h2⟩ := fact_cases h
  have hn : f.name.length ≤ 24 := by
    simp only [nameOk, Bool.and_eq_true, decide_eq_true_eq] at h1
    exact h1.2
  have d1 : (dec f.lo.toNat).length ≤ 7 := (dec_ok _ (by omega)).2.2.2
  have d2 : (dec f.hi.toNat).length ≤ 7 := (dec_ok _ (by omega)).2.2.2
  unfold line
  by_cases hk : f.kind = 1
  · rw [if_pos hk]
    simp [flagW]
    omega
  · rw [if_neg hk]
    simp [numW, toW]
    omega
theorem lines_len : ∀ (d : List Fc), (∀ f ∈ d, factOk f = true) → (d.flatMap line).length ≤ 70 * d.length
  | [], _ => by simp
  | f :: d, h => by
    have h1 := line_len (h f (List.mem_cons_self ..))
    have h2 := lines_len d fun g hg => h g (List.mem_cons_of_mem _ hg)
    rw [List.flatMap_cons, List.length_append, List.length_cons]
    omega
theorem join_two (a : List UInt8) : Lib.join [a, flagW] [32] = a ++ 32 :: flagW := by simp [Lib.join, List.intercalate, List.intersperse]
theorem join_five (a b c : List UInt8) : Lib.join [a, numW, b, toW, c] [32] = a ++ 32 :: (numW ++ 32 :: (b ++ 32 :: (toW ++ 32 :: c))) := by simp [Lib.join, List.intercalate, List.intersperse]

set_option maxHeartbeats 16000000 in
set_option maxRecDepth 100000 in
theorem text_invalid (A : Option Addr) (c : Nat) (l0 : List S42) (w : World) (hr : Kd.C k42 w A l0.length l0) (hc0 : l0.length ≤ c) (hsm : Small l0) (hv : ¬ Valid (l0.map toF)) :
    Calls Tryd.prog 10 #[.agg #[.slice A l0.length c]] w fun e w' => e = .returned (.string (bs [])) ∧ Below w.heap.size w w' := by
  have HC := Aside0.mk hr
  have hvf : fact_Valid.f l0 = some false := by unfold fact_Valid.f; rw [if_pos hsm, decide_eq_false hv]
  have HVF := Aside0.mk hvf
  clear hr hsm hv hvf
  go_enter Tryd.func10, Tryd.ntmps10
  go_upto_region 1 with (first | ((with_reducible refine gate_dst (N := 1) rfl ?_); (try (refine gate_guard (by rfl) ?_; dsimp only)); refine box_event ?hg (N := 1) ?hd (cs := #[.slice A l0.length c]) (t := 24) ?hr ?_; (case hd => rfl); (case hg => rfl); (case hr => first | (go_simp; done) | (go_simp; rfl)); intro bx hg_bx wx hbox hb; have BK_bx := Aside0.mk hbox; have HB_bx := Aside0.mk hb; have GE_bx := Aside0.mk (Nat.le_of_eq hg_bx.symm); clear hbox hb hg_bx))
  refine at_world (F := fun w' => w'.heap[bx]? = some (.cells #[.slice A l0.length c] 24 (0, 0)) ∧ Below w.heap.size w w') ⟨BK_bx.out, HB_bx.out⟩ ?_
  clear BK_bx HB_bx GE_bx
  rintro w0 ⟨hX0, hB0⟩
  have X0 := Aside0.mk hX0
  have B0 := Aside0.mk hB0
  clear hX0 hB0
  have x0 := (blk_cell X0.out 0).trans (show _ = some (Value.slice A l0.length c) from rfl)
  go_wp2_with (first | (go_at_call 11; refine (fact_Valid.calls A c l0 false _ (Kd.C_below HC.out B0.out) hc0 HVF.out).mono ?_; rintro e_ w1 ⟨rfl, hb⟩; have HB := Aside0.mk hb; clear hb))
  go_ret
  exact ⟨rfl, below_step B0.out HB.out⟩
set_option maxHeartbeats 64000000 in
set_option maxRecDepth 100000 in
theorem text_valid (A : Option Addr) (c : Nat) (l0 : List S42) (w : World) (hr : Kd.C k42 w A l0.length l0) (hc0 : l0.length ≤ c) (ht : Tab w) (hsm : Small l0) (hv : Valid (l0.map toF)) :
    Calls Tryd.prog 10 #[.agg #[.slice A l0.length c]] w fun e w' => e = .returned (.string (bs ((l0.map toF).flatMap line))) ∧ Below w.heap.size w w' := by
  have HC := Aside0.mk hr
  have HTb := Aside0.mk ht
  have HV := Aside0.mk hv
  have hvf : fact_Valid.f l0 = some true := by unfold fact_Valid.f; rw [if_pos hsm, decide_eq_true hv]
  have HVF := Aside0.mk hvf
  have h60 : l0.length ≤ 60 := by have := hv.2.2; rwa [List.length_map] at this
  clear hr ht hv hsm hvf
  go_enter Tryd.func10, Tryd.ntmps10
  go_upto_region 1 with (first | ((with_reducible refine gate_dst (N := 1) rfl ?_); (try (refine gate_guard (by rfl) ?_; dsimp only)); refine box_event ?hg (N := 1) ?hd (cs := #[.slice A l0.length c]) (t := 24) ?hr ?_; (case hd => rfl); (case hg => rfl); (case hr => first | (go_simp; done) | (go_simp; rfl)); intro bx hg_bx wx hbox hb; have BK_bx := Aside0.mk hbox; have HB_bx := Aside0.mk hb; have GE_bx := Aside0.mk (Nat.le_of_eq hg_bx.symm); clear hbox hb hg_bx))
  refine at_world (F := fun w' => w'.heap[bx]? = some (.cells #[.slice A l0.length c] 24 (0, 0)) ∧ Below w.heap.size w w') ⟨BK_bx.out, HB_bx.out⟩ ?_
  clear BK_bx HB_bx GE_bx
  rintro w0 ⟨hX0, hB0⟩
  have X0 := Aside0.mk hX0
  have B0 := Aside0.mk hB0
  clear hX0 hB0
  have x0 := (blk_cell X0.out 0).trans (show _ = some (Value.slice A l0.length c) from rfl)
  go_upto_region 3 with (first | (go_at_call 11; refine (fact_Valid.calls A c l0 true _ (Kd.C_below HC.out B0.out) hc0 HVF.out).mono ?_; rintro e_ w1 ⟨rfl, hb⟩; have HB := Aside0.mk hb; clear hb))
  refine at_world (F := fun w' => w'.heap[bx]? = some (.cells #[.slice A l0.length c] 24 (0, 0)) ∧ Below w.heap.size w w') ⟨blk_below X0.out HB.out, below_step B0.out HB.out⟩ ?_
  clear X0 B0 HB x0
  rintro w2 ⟨hX0, hB0⟩
  have X2 := Aside0.mk hX0
  have B2 := Aside0.mk hB0
  clear hX0 hB0
  go_upto_region 4 with (first | ((with_reducible refine gate_dst (N := 3) rfl ?_); (try (refine gate_guard (by rfl) ?_; dsimp only)); refine box_event ?hg (N := 3) ?hd (cs := #[.pointer none, .slice none 0 0]) (t := 56) ?hr ?_; (case hd => rfl); (case hg => rfl); (case hr => first | (go_simp; done) | (go_simp; rfl)); intro g hg_g wg hbox hb; have BK_g := Aside0.mk hbox; have HB_g := Aside0.mk hb; have GE_g := Aside0.mk (Nat.le_of_eq hg_g.symm); clear hbox hb hg_g))
  have GG : w.heap.size ≤ g := Nat.le_trans B2.out.size GE_g.out
  refine at_world (F := fun w' => w'.heap[bx]? = some (.cells #[.slice A l0.length c] 24 (0, 0)) ∧ Lib.IsBuilder 56 5 g g (Lib.byteCells (((l0.map toF).take 0).flatMap line)) w' ∧ Below w.heap.size w w') ⟨blk_below X2.out HB_g.out, builder_new BK_g.out, below_step B2.out HB_g.out⟩ ?_
  clear BK_g HB_g GE_g X2 B2
  rintro w3 ⟨hX0, hU0, hB0⟩
  have X3 := Aside0.mk hX0
  have U3 := Aside0.mk hU0
  have B3 := Aside0.mk hB0
  clear hX0 hU0 hB0
  have x0 := (blk_cell X3.out 0).trans (show _ = some (Value.slice A l0.length c) from rfl)
  go_wp2
  clear x0
  go_loopg [13] l0.length (fun gk v13 wr => ∃ (j : Nat), l0.length - j ≤ gk ∧ j ≤ l0.length ∧ v13 = .int .i64 j ∧ Aside0 (Lib.IsBuilder 56 5 g g (Lib.byteCells (((l0.map toF).take j).flatMap line)) wr) ∧ Aside0 (Below w.heap.size w wr))
  case atStart => exact ⟨0, by omega, Nat.zero_le _, rfl, U3, B3⟩
  case round =>
    clear U3 X3 B3
    obtain ⟨j, hgk, hj, rfl, HU, HP⟩ := hrel
    by_cases hjl : j < l0.length
    · cases gk with
      | zero => omega
      | succ k1 =>
        have hd1 : decide ((j : Int) < (l0.length : Int)) = true := decide_eq_true (by omega)
        have hd2 : decide (j < l0.length) = true := decide_eq_true hjl
        obtain ⟨ad, e0_, hx0, hx1, hx2, hx3⟩ := at_T42 HC.out (j : Int) (by omega) (by omega)
        simp only [Int.toNat_natCast] at hx0 hx1 hx2 hx3
        subst e0_
        replace hx0 := (HP.out.cell (World.block_lt_of_cell? w _ hx0)).trans hx0
        replace hx1 := (HP.out.cell (World.block_lt_of_cell? w _ hx1)).trans hx1
        replace hx2 := (HP.out.cell (World.block_lt_of_cell? w _ hx2)).trans hx2
        replace hx3 := (HP.out.cell (World.block_lt_of_cell? w _ hx3)).trans hx3
        have p1 := eq_true (show (0 : Int) ≤ (j : Int) by omega)
        have q1 := eq_true (show (j : Int) < (l0.length : Int) by omega)
        obtain ⟨-, hfa, hmem⟩ := fact_at l0 j hjl
        have HLEN := Aside0.mk (lines_len ((l0.map toF).take j) (fun f hf => HV.out.1 f (List.mem_of_mem_take hf)))
        generalize rd_T42 l0 (j : Int) = x at hx0 hx1 hx2 hx3 hfa hmem
        obtain ⟨nm, kd, lo, hi⟩ := x
        have hok := HV.out.1 _ (List.mem_map_of_mem hmem)
        have HS := Aside0.mk (text_step hfa)
        have HOK := Aside0.mk hok
        simp only at hx0 hx1 hx2 hx3
        clear hfa hmem hok
        go_upto_region 7 with (first | ((with_reducible refine gate_dst (N := 5) rfl ?_); (try (refine gate_guard (by rfl) ?_; dsimp only)); refine box_event ?hg (N := 5) ?hd (cs := #[.string (⟨#[]⟩ : ByteArray), .int .i64 0, .int .i64 0, .int .i64 0]) (t := 42) ?hr ?_; (case hd => rfl); (case hg => rfl); (case hr => first | (go_simp; done) | (go_simp; rfl)); intro b5 hg_b5 w5 hbox hb; have BK_b5 := Aside0.mk hbox; have HB_b5 := Aside0.mk hb; have GE_b5 := Aside0.mk (Nat.le_of_eq hg_b5.symm); clear hbox hb hg_b5; have zb50 := (blk_cell BK_b5.out 0).trans (show _ = some (Value.string (⟨#[]⟩ : ByteArray)) from rfl); have fb50 := blk_frozen BK_b5.out 0; have zb51 := (blk_cell BK_b5.out 1).trans (show _ = some (Value.int .i64 0) from rfl); have fb51 := blk_frozen BK_b5.out 1; have zb52 := (blk_cell BK_b5.out 2).trans (show _ = some (Value.int .i64 0) from rfl); have fb52 := blk_frozen BK_b5.out 2; have zb53 := (blk_cell BK_b5.out 3).trans (show _ = some (Value.int .i64 0) from rfl); have fb53 := blk_frozen BK_b5.out 3))
        refine at_world (F := fun w' => Lib.IsBuilder 56 5 g g (Lib.byteCells (((l0.map toF).take j).flatMap line)) w' ∧ w'.heap[b5]? = some (.cells #[.string nm, .int .i64 kd, .int .i64 lo, .int .i64 hi] 42 (0, 0)) ∧ Below w.heap.size w w') ⟨builder_below HU.out (below_set (below_set (below_set (below_set HB_b5.out GE_b5.out) GE_b5.out) GE_b5.out) GE_b5.out), (blk_put (blk_put (blk_put (blk_put BK_b5.out 0 _ rfl) 1 _ rfl) 2 _ rfl) 3 _ rfl), below_step HP.out (below_set (below_set (below_set (below_set HB_b5.out GE_b5.out) GE_b5.out) GE_b5.out) GE_b5.out)⟩ ?_
        clear hx0 hx1 hx2 hx3 HP HU BK_b5 HB_b5 GE_b5 zb50 fb50 zb51 fb51 zb52 fb52 zb53 fb53
        rintro w6 ⟨u_, k_, p_⟩
        have HU := Aside0.mk u_
        have BK := Aside0.mk k_
        have HP := Aside0.mk p_
        clear u_ k_ p_
        have k0 := (blk_cell BK.out 0).trans (show _ = some (Value.string nm) from rfl)
        have k1_ := (blk_cell BK.out 1).trans (show _ = some (Value.int .i64 kd) from rfl)
        have k2 := (blk_cell BK.out 2).trans (show _ = some (Value.int .i64 lo) from rfl)
        have k3 := (blk_cell BK.out 3).trans (show _ = some (Value.int .i64 hi) from rfl)
        have hnm := (fact_cases HOK.out).1
        have hnl : (byts nm).length ≤ 24 := by
          simp only [nameOk, Bool.and_eq_true, decide_eq_true_eq] at hnm
          exact hnm.2
        have HNL := Aside0.mk hnl
        clear hnm
        by_cases hkd : kd = 1
        · subst hkd
          go_upto_region 8 with (first | ((with_reducible refine gate_dst (N := 19) rfl ?_); refine Kd.R_lit Kd.string (w0 := w6) w6.heap.size 9 ?hg (N := 19) ?hd (xs := [nm, bs flagW]) (inner := [.string nm, .string (bs flagW)]) (ok := fun _ => True) (okp := fun _ => True) ?hr (Kd.reps_scalar [nm, bs flagW]) (fun _ hk => hk) trivial (Below.refl _ _) (Nat.le_refl _) (by simp) ?_; (case hd => rfl); (case hg => rfl); (case hr => first | (go_simp; done) | (go_simp; rfl)); intro v19 wl_ ho_ hb_ hg_ hn_; have HO := Aside0.mk ho_; have HBo := Aside0.mk hb_; clear ho_ hb_ hg_ hn_))
          have k1' := (blk_cell (blk_below BK.out HBo.out) 1).trans (show _ = some (Value.int .i64 1) from rfl)
          have HUX := Aside0.mk (builder_below HU.out HBo.out)
          have HPX := Aside0.mk (below_step HP.out HBo.out)
          clear k0 k1_ k2 k3 HU HP HBo BK
          have HLL := Aside0.mk (show ((byts nm ++ 32 :: flagW) ++ [59, 10]).length ≤ 100 by have := HNL.out; simp [flagW, numW, toW]; omega)
          have HLM := Aside0.mk (show (byts nm ++ 32 :: flagW).length ≤ 1000 by have := HNL.out; simp [flagW, numW, toW]; omega)
          have c7 : (bs (byts nm ++ 32 :: flagW)).size + 2 ≤ 9223372036854775807 := by rw [bs_size]; have := HLM.out; omega
          have c7b0 := eq_true c7
          have c7b2 : (9223372036854775807 < (bs (byts nm ++ 32 :: flagW)).size + 2) = False := eq_false (Nat.not_lt.2 c7)
          clear c7
          go_upto_region 11 with (first
            | (go_at_call 26; refine (join_own HO.out (bs [32]) (byts nm ++ 32 :: flagW) (show Lib.join [byts nm, byts (bs flagW)] (byts (bs [32])) = _ by rw [byts_bs flagW, byts_bs [32]]; exact join_two _) (by have := HLM.out; omega) (by simp)).mono ?_; rintro e_ w8 ⟨rfl, hb⟩; have HJ := Aside0.mk hb; clear hb)
            | (go_at_call 25; refine (Tryd.Builder_WriteString_own g g _ _ _ (builder_below HUX.out HJ.out) ?hl ?hs).mono ?_; (case hl => have hz_ := Lib.byteCells_length (((l0.map toF).take j).flatMap line); have := HLEN.out; rw [List.length_take] at this; have h2_ := HLL.out; rw [show (bs _ ++ (⟨#[59, 10]⟩ : ByteArray)) = bs (_ ++ [59, 10]) from bs_append _ _, bs_size, hz_]; simp only [List.length_append] at h2_ ⊢; omega); (case hs => exact Nat.le_of_lt (builder_lt (builder_below HUX.out HJ.out))); rintro e_ w9 ⟨rfl, hu, hb⟩; have HW := Aside0.mk hu; have HWB := Aside0.mk hb; clear hu hb))
          clear c7b0 c7b2
          go_wp2
          go_roundg k1
          case measure => omega
          case rel => exact ⟨j + 1, by omega, by omega, by go_num, ⟨.inr (by have h_ := HW.out; rw [cells_more _ (line ⟨byts nm, 1, lo, hi⟩) _ (by show byts (bs _ ++ bs [59, 10]) = _; rw [bs_append, byts_bs (byts nm ++ 32 :: flagW ++ [59, 10])]; unfold line; rw [if_pos rfl]; simp)] at h_; rw [HS.out]; exact h_)⟩, ⟨below_weaken (below_step HPX.out HJ.out) GG HWB.out⟩⟩
        · have hk2 : kd = 2 ∧ 0 ≤ lo ∧ lo ≤ hi ∧ hi ≤ 1000000 := by
            rcases (fact_cases HOK.out).2 with ⟨h, _⟩ | h
            · exact absurd h hkd
            · exact h
          obtain ⟨rfl, hn1, hn2, hn3⟩ := hk2
          have HNB := Aside0.mk (And.intro hn1 (And.intro hn2 hn3))
          clear hkd hn1 hn2 hn3
          go_upto_region 8 with (first | ((with_reducible refine gate_dst (N := 19) rfl ?_); refine Kd.R_lit Kd.string (w0 := w6) w6.heap.size 9 ?hg (N := 19) ?hd (xs := [nm, bs flagW]) (inner := [.string nm, .string (bs flagW)]) (ok := fun _ => True) (okp := fun _ => True) ?hr (Kd.reps_scalar [nm, bs flagW]) (fun _ hk => hk) trivial (Below.refl _ _) (Nat.le_refl _) (by simp) ?_; (case hd => rfl); (case hg => rfl); (case hr => first | (go_simp; done) | (go_simp; rfl)); intro v19 wl_ ho_ hb_ hg_ hn_; have HO := Aside0.mk ho_; have HBo := Aside0.mk hb_; clear ho_ hb_ hg_ hn_))
          have k1' := (blk_cell (blk_below BK.out HBo.out) 1).trans (show _ = some (Value.int .i64 2) from rfl)
          refine at_world (F := fun w' => Lib.IsBuilder 56 5 g g (Lib.byteCells (((l0.map toF).take j).flatMap line)) w' ∧ w'.heap[b5]? = some (.cells #[.string nm, .int .i64 2, .int .i64 lo, .int .i64 hi] 42 (0, 0)) ∧ Below w.heap.size w w') ⟨builder_below HU.out HBo.out, blk_below BK.out HBo.out, below_step HP.out HBo.out⟩ ?_
          clear k0 k1_ k2 k3 k1' HU HP HBo BK HO
          rintro w7 ⟨u_, k_, p_⟩
          have HU := Aside0.mk u_
          have BK := Aside0.mk k_
          have HP := Aside0.mk p_
          clear u_ k_ p_
          have k1' := (blk_cell BK.out 1).trans (show _ = some (Value.int .i64 2) from rfl)
          go_upto_region 9 with (fail)
          clear k1'
          have k0 := (blk_cell BK.out 0).trans (show _ = some (Value.string nm) from rfl)
          have k2 := (blk_cell BK.out 2).trans (show _ = some (Value.int .i64 lo) from rfl)
          have k3 := (blk_cell BK.out 3).trans (show _ = some (Value.int .i64 hi) from rfl)
          refine start_ (n := 10) (S := fun w' => w'.cell? ⟨b5, 0, none⟩ = some (.string nm) ∧ w'.cell? ⟨b5, 2, none⟩ = some (.int .i64 lo) ∧ w'.cell? ⟨b5, 3, none⟩ = some (.int .i64 hi)) (ds := [9]) #[false, false, false, false, false, false, false, false, false, false] (by kernel_rfl) rfl rfl ⟨k0, k2, k3⟩ (fun hHeld => ?_)
          obtain ⟨wd, hwd⟩ : ∃ wd, w7.drew = wd := ⟨_, rfl⟩
          have HUd := Aside0.mk (show Lib.IsBuilder 56 5 g g (Lib.byteCells (((l0.map toF).take j).flatMap line)) wd by rw [← hwd]; exact builder_below HU.out (below_drew1 (Below.refl _ _)))
          have BKd := Aside0.mk (show wd.heap[b5]? = some (.cells #[.string nm, .int .i64 2, .int .i64 lo, .int .i64 hi] 42 (0, 0)) by rw [← hwd]; exact blk_drew BK.out)
          have HPd := Aside0.mk (show Below w.heap.size w wd by rw [← hwd]; exact below_drew1 HP.out)
          rw [hwd] at hHeld ⊢
          clear hwd k0 k2 k3 HU BK HP
          refine pure_ (i := 0) (N := some 23) (v := ?_) (a' := ?_) #[true, false, false, false, false, false, false, false, false, false] rfl rfl (by kernel_rfl) (fun _ _ _ h => h) (Or.inl ⟨by rfl, ?_⟩) ?_ ?_
          rotate_left
          · intro w'
            go_simp
            with_reducible rfl
          rotate_left
          · simp only [Act.put, List.setIfInBounds_toArray, List.set_cons_zero, List.set_cons_succ, i64_w, i32_w]
            rfl
          refine take_ (i := 1) (N := some 24) (v := ?_) (a' := ?_) #[true, true, false, false, false, false, false, false, false, false] rfl rfl (by kernel_rfl) (fun _ _ _ h => h) (Or.inl ⟨by rfl, ?_⟩) hHeld ?_ ?_
          rotate_left
          · rintro w' ⟨s0, s1, s2⟩
            go_simp
            with_reducible rfl
          rotate_left
          · simp only [Act.put, List.setIfInBounds_toArray, List.set_cons_zero, List.set_cons_succ, i64_w, i32_w]
            rfl
          refine pure_ (i := 2) (N := some 25) (v := ?_) (a' := ?_) #[true, true, true, false, false, false, false, false, false, false] rfl rfl (by kernel_rfl) (fun _ _ _ h => h) (Or.inl ⟨by rfl, ?_⟩) ?_ ?_
          rotate_left
          · intro w'
            go_simp
            with_reducible rfl
          rotate_left
          · simp only [Act.put, List.setIfInBounds_toArray, List.set_cons_zero, List.set_cons_succ, i64_w, i32_w]
            rfl
          refine take_ (i := 3) (N := some 26) (v := ?_) (a' := ?_) #[true, true, true, true, false, false, false, false, false, false] rfl rfl (by kernel_rfl) (fun _ _ _ h => h) (Or.inl ⟨by rfl, ?_⟩) hHeld ?_ ?_
          rotate_left
          · rintro w' ⟨s0, s1, s2⟩
            go_simp
            with_reducible rfl
          rotate_left
          · simp only [Act.put, List.setIfInBounds_toArray, List.set_cons_zero, List.set_cons_succ, i64_w, i32_w]
            rfl
          refine pure_ (i := 5) (N := some 28) (v := ?_) (a' := ?_) #[true, true, true, true, false, true, false, false, false, false] rfl rfl (by kernel_rfl) (fun _ _ _ h => h) (Or.inl ⟨by rfl, ?_⟩) ?_ ?_
          rotate_left
          · intro w'
            go_simp
            with_reducible rfl
          rotate_left
          · simp only [Act.put, List.setIfInBounds_toArray, List.set_cons_zero, List.set_cons_succ, i64_w, i32_w]
            rfl
          refine take_ (i := 6) (N := some 29) (v := ?_) (a' := ?_) #[true, true, true, true, false, true, true, false, false, false] rfl rfl (by kernel_rfl) (fun _ _ _ h => h) (Or.inl ⟨by rfl, ?_⟩) hHeld ?_ ?_
          rotate_left
          · rintro w' ⟨s0, s1, s2⟩
            go_simp
            with_reducible rfl
          rotate_left
          · simp only [Act.put, List.setIfInBounds_toArray, List.set_cons_zero, List.set_cons_succ, i64_w, i32_w]
            rfl
          refine one_ (i := 4) (N := some 27) #[true, true, true, true, true, true, true, false, false, false] rfl rfl (by kernel_rfl) (by decide) (fun K hK => ?_)
          refine goes_ Tryd.func24 (by kernel_rfl) rfl #[.int .i64 lo] (by rfl) rfl rfl (by (try simp only [List.map_toArray, List.map_cons, List.map_nil]); first | done | rfl) ?_
          refine (itoa_any lo (by have := HNB.out; omega) (by have := HNB.out; omega) wd (HTb.out.below HPd.out)).mono ?_
          rintro e_ wi ⟨rfl, bi⟩
          refine ⟨_, rfl, ?_⟩
          have HUi := Aside0.mk (builder_below HUd.out bi)
          have BKi := Aside0.mk (blk_below BKd.out bi)
          have HPi := Aside0.mk (below_step HPd.out bi)
          refine hK.out _ _ ⟨(blk_cell BKi.out 0).trans rfl, (blk_cell BKi.out 2).trans rfl, (blk_cell BKi.out 3).trans rfl⟩ (fun hHeld => ?_)
          clear hK K bi HUd BKd HPd
          refine norm_ (a' := ?_) ?_ ?_
          rotate_left
          · show Act.put _ (some 27) _ = _
            simp only [Act.put, List.setIfInBounds_toArray, List.set_cons_zero, List.set_cons_succ, i64_w, i32_w]
            rfl
          refine one_ (i := 7) (N := some 30) #[true, true, true, true, true, true, true, true, false, false] rfl rfl (by kernel_rfl) (by decide) (fun K hK => ?_)
          refine goes_ Tryd.func24 (by kernel_rfl) rfl #[.int .i64 hi] (by rfl) rfl rfl (by (try simp only [List.map_toArray, List.map_cons, List.map_nil]); first | done | rfl) ?_
          refine (itoa_any hi (by have := HNB.out; omega) (by have := HNB.out; omega) wi (HTb.out.below HPi.out)).mono ?_
          rintro e_ wj ⟨rfl, bi⟩
          refine ⟨_, rfl, ?_⟩
          have HUj := Aside0.mk (builder_below HUi.out bi)
          have BKj := Aside0.mk (blk_below BKi.out bi)
          have HPj := Aside0.mk (below_step HPi.out bi)
          refine hK.out _ _ ⟨(blk_cell BKj.out 0).trans rfl, (blk_cell BKj.out 2).trans rfl, (blk_cell BKj.out 3).trans rfl⟩ (fun hHeld => ?_)
          clear hK K bi HUi BKi HPi
          refine norm_ (a' := ?_) ?_ ?_
          rotate_left
          · show Act.put _ (some 30) _ = _
            simp only [Act.put, List.setIfInBounds_toArray, List.set_cons_zero, List.set_cons_succ, i64_w, i32_w]
            rfl
          refine one_ (i := 8) (N := some 31) #[true, true, true, true, true, true, true, true, true, false] rfl rfl (by kernel_rfl) (by decide) (fun K hK => ?_)
          refine value_ (w1 := wj.alloc (.cells ([nm, bs numW, bs (dec lo.toNat), bs toW, bs (dec hi.toNat)].map Value.string).toArray 9)) (v := .slice (some ⟨wj.heap.size, 0, none⟩) 5 5) (by rfl) rfl (by first | (go_simp; done) | (go_simp; rfl)) ?_
          have bi := below_alloc (Below.refl wj.heap.size wj) (.cells ([nm, bs numW, bs (dec lo.toNat), bs toW, bs (dec hi.toNat)].map Value.string).toArray 9)
          have HO := Aside0.mk (lit_own wj [nm, bs numW, bs (dec lo.toNat), bs toW, bs (dec hi.toNat)] (by simp))
          have HUX := Aside0.mk (builder_below HUj.out bi)
          have BKX := Aside0.mk (blk_below BKj.out bi)
          have HPX := Aside0.mk (below_step HPj.out bi)
          refine hK.out _ _ ⟨(blk_cell BKX.out 0).trans rfl, (blk_cell BKX.out 2).trans rfl, (blk_cell BKX.out 3).trans rfl⟩ (fun hHeld => ?_)
          clear hK K bi HUj BKj HPj BKX
          refine norm_ (a' := ?_) ?_ ?_
          rotate_left
          · show Act.put _ (some 31) _ = _
            simp only [Act.put, List.setIfInBounds_toArray, List.set_cons_zero, List.set_cons_succ, i64_w, i32_w]
            rfl
          generalize wj.alloc (.cells ([nm, bs numW, bs (dec lo.toNat), bs toW, bs (dec hi.toNat)].map Value.string).toArray 9) = wl at HO HUX HPX hHeld ⊢
          obtain ⟨vl, hvl⟩ : ∃ vl, Value.slice (some ⟨wj.heap.size, 0, none⟩) 5 5 = vl := ⟨_, rfl⟩
          have HO2 := Aside0.mk (show Kd.R Kd.string 9 wl wj.heap.size (fun _ => True) vl [nm, bs numW, bs (dec lo.toNat), bs toW, bs (dec hi.toNat)] by rw [← hvl]; exact HO.out)
          rw [hvl]
          clear HO hvl
          have HO := HO2
          clear HO2
          refine pure_ (i := 9) (N := some 6) (v := ?_) (a' := ?_) #[true, true, true, true, true, true, true, true, true, true] rfl rfl (by kernel_rfl) (fun _ _ _ h => h) (Or.inl ⟨by rfl, ?_⟩) ?_ ?_
          rotate_left
          · intro w'
            go_simp
            with_reducible rfl
          rotate_left
          · simp only [Act.put, List.setIfInBounds_toArray, List.set_cons_zero, List.set_cons_succ, i64_w, i32_w]
            rfl
          refine done_ (by kernel_rfl) ?_
          clear hHeld
          have hdl := Aside0.mk (show (dec lo.toNat).length ≤ 7 ∧ (dec hi.toNat).length ≤ 7 from ⟨(dec_ok _ (by have := HNB.out; omega)).2.2.2, (dec_ok _ (by have := HNB.out; omega)).2.2.2⟩)
          have HLL := Aside0.mk (show ((byts nm ++ 32 :: (numW ++ 32 :: (dec lo.toNat ++ 32 :: (toW ++ 32 :: dec hi.toNat)))) ++ [59, 10]).length ≤ 100 by have := HNL.out; have := hdl.out; simp [flagW, numW, toW]; omega)
          have HLM := Aside0.mk (show (byts nm ++ 32 :: (numW ++ 32 :: (dec lo.toNat ++ 32 :: (toW ++ 32 :: dec hi.toNat)))).length ≤ 1000 by have := HNL.out; have := hdl.out; simp [flagW, numW, toW]; omega)
          have c7 : (bs (byts nm ++ 32 :: (numW ++ 32 :: (dec lo.toNat ++ 32 :: (toW ++ 32 :: dec hi.toNat))))).size + 2 ≤ 9223372036854775807 := by rw [bs_size]; have := HLM.out; omega
          have c7b0 := eq_true c7
          have c7b2 : (9223372036854775807 < (bs (byts nm ++ 32 :: (numW ++ 32 :: (dec lo.toNat ++ 32 :: (toW ++ 32 :: dec hi.toNat))))).size + 2) = False := eq_false (Nat.not_lt.2 c7)
          clear c7
          go_upto_region 11 with (first
            | (go_at_call 26; refine (join_own HO.out (bs [32]) (byts nm ++ 32 :: (numW ++ 32 :: (dec lo.toNat ++ 32 :: (toW ++ 32 :: dec hi.toNat)))) (show Lib.join [byts nm, byts (bs numW), byts (bs (dec lo.toNat)), byts (bs toW), byts (bs (dec hi.toNat))] (byts (bs [32])) = _ by rw [byts_bs numW, byts_bs toW, byts_bs [32], byts_bs (dec lo.toNat), byts_bs (dec hi.toNat)]; exact join_five _ _ _) (by have := HLM.out; omega) (by simp)).mono ?_; rintro e_ w8 ⟨rfl, hb⟩; have HJ := Aside0.mk hb; clear hb)
            | (go_at_call 25; refine (Tryd.Builder_WriteString_own g g _ _ _ (builder_below HUX.out HJ.out) ?hl ?hs).mono ?_; (case hl => have hz_ := Lib.byteCells_length (((l0.map toF).take j).flatMap line); have := HLEN.out; rw [List.length_take] at this; have h2_ := HLL.out; rw [show (bs _ ++ (⟨#[59, 10]⟩ : ByteArray)) = bs (_ ++ [59, 10]) from bs_append _ _, bs_size, hz_]; simp only [List.length_append] at h2_ ⊢; omega); (case hs => exact Nat.le_of_lt (builder_lt (builder_below HUX.out HJ.out))); rintro e_ w9 ⟨rfl, hu, hb⟩; have HW := Aside0.mk hu; have HWB := Aside0.mk hb; clear hu hb))
          clear c7b0 c7b2
          go_wp2
          go_roundg k1
          case measure => omega
          case rel => exact ⟨j + 1, by omega, by omega, by go_num, ⟨.inr (by have h_ := HW.out; rw [cells_more _ (line ⟨byts nm, 2, lo, hi⟩) _ (by show byts (bs _ ++ bs [59, 10]) = _; rw [bs_append, byts_bs (byts nm ++ 32 :: (numW ++ 32 :: (dec lo.toNat ++ 32 :: (toW ++ 32 :: dec hi.toNat))) ++ [59, 10])]; unfold line; rw [if_neg (show ¬ (2 : Int) = 1 by decide)]; simp)] at h_; rw [HS.out]; exact h_)⟩, ⟨below_weaken (below_step HPX.out HJ.out) GG HWB.out⟩⟩
    · have hjn : j = l0.length := by omega
      subst hjn
      have hd1 : decide ((l0.length : Int) < (l0.length : Int)) = false := decide_eq_false (by omega)
      have hd2 : decide (l0.length < l0.length) = false := decide_eq_false (by omega)
      go_wp2_with (first | (go_at_call 27; refine (Tryd.Builder_String_any g g _ _ HU.out (Nat.le_of_lt (builder_lt HU.out))).mono ?_; rintro e_ w12 ⟨rfl, hb⟩; have HB := Aside0.mk hb; clear hb))
      go_ret
      exact ⟨by rw [List.take_of_length_le (by rw [List.length_map]; omega)]; rfl, below_weaken HP.out GG HB.out⟩
end Go.Proofs.YtgddmfphlhlcjaaDoor.FcW
