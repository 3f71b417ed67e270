/- The scanner's method 'next', at every offset of a text: as the plain lexer tells it. -/
import Derived.Test.YtalgccjkfanaoaaDoorLexM
namespace Go.Proofs.YtalgccjkfanaoaaDoor.LxW
open Go.RowKit Go.Proofs.YtalgccjkfanaoaaDoorW.PrintWords Go.Proofs.YtalgccjkfanaoaaDoorW.PrintLast Go.Proofs.YtalgccjkfanaoaaDoorW.PrintMore
open Go.Proofs.YtalgccjkfanaoaaDoor Go.Proofs.YtalgccjkfanaoaaDoor.LxP
set_option linter.unusedVariables false
set_option linter.unusedSimpArgs false

theorem cls_eq (c : UInt8) (k : Nat) (p : Bool) (h : ((cls c : Int) == k) = p) : p = true → (cls c : Int) = k := by
  intro hp
  rw [hp] at h
  exact beq_iff_eq.1 h
theorem cls_range : ∀ c : UInt8, cls c ≤ 9 := all_bytes (by decide +kernel)
theorem runW (c : UInt8) : ([3, 4, 5] : List Int).contains (cls c : Int) = isW c := by
  obtain ⟨_, _, h3, h4, h5, _⟩ := cls_facts c
  simp only [List.contains, List.elem, h3, h4, h5, isW]
  cases isL c <;> cases isD c <;> cases (c == 95) <;> rfl
theorem runD (c : UInt8) : ([4] : List Int).contains (cls c : Int) = isD c := by
  obtain ⟨_, _, h3, h4, h5, _⟩ := cls_facts c
  simp only [List.contains, List.elem, h4]
  cases isD c <;> rfl
theorem run_take (cl : List Int) (p : UInt8 → Bool) (h : ∀ c, cl.contains (cls c : Int) = p c) : ∀ l, runN cl l = (l.takeWhile p).length
  | [] => rfl
  | c :: r => by
    rw [List.takeWhile_cons]
    have hc := h c
    cases hp : p c with
    | true =>
      rw [hp] at hc
      rw [runN_yes hc, run_take cl p h r]
      rfl
    | false =>
      rw [hp] at hc
      rw [runN_no hc]
      rfl
theorem digit_val {c : UInt8} (h : isD c = true) : Lib.digitVal c = some (c.toNat - 48) := by
  simp only [isD, Bool.and_eq_true, decide_eq_true_eq, UInt8.le_iff_toNat_le] at h
  unfold Lib.digitVal
  rw [if_pos (show 48 ≤ c.toNat ∧ c.toNat ≤ 57 from h)]
theorem decFrom_digits : ∀ (w : List UInt8) (acc : Nat), (∀ x ∈ w, isD x = true) → Lib.decFrom acc w = some (w.foldl (fun n c => 10 * n + (c.toNat - 48)) acc)
  | [], acc, _ => rfl
  | c :: r, acc, h => by
    unfold Lib.decFrom
    rw [digit_val (h c (by simp))]
    simp only [List.foldl_cons]
    rw [decFrom_digits r _ (fun x hx => h x (by simp [hx])), Nat.mul_comm]
theorem atoi_digits (c : UInt8) (w : List UInt8) (h : ∀ x ∈ c :: w, isD x = true) : Lib.atoi (c :: w) = some (val (c :: w) : Int) := by
  have hc : isD c = true := h c (by simp)
  have h1 : (c == 45) = false ∧ (c == 43) = false := by
    constructor
    · rw [beq_eq_false_iff_ne]; rintro rfl; revert hc; decide
    · rw [beq_eq_false_iff_ne]; rintro rfl; revert hc; decide
  simp only [Lib.atoi, h1.1, h1.2, Bool.false_eq_true, if_false]
  unfold Lib.decNat
  rw [decFrom_digits _ _ h]
  rfl
theorem atN_rest (s : ByteArray) (e : Nat) : atN s e = match rest s e with | [] => 0 | d :: _ => cls d := by
  unfold atN
  split
  · rename_i h; rw [rest_cons s e h]
  · rename_i h; rw [rest_nil s e h]
theorem indexAny_take : ∀ l : List UInt8, (l.drop (l.takeWhile (fun x => !(x == 34 || x == 10))).length = [] → Lib.indexAny l [34, 10] = -1) ∧ (∀ d r, l.drop (l.takeWhile (fun x => !(x == 34 || x == 10))).length = d :: r → Lib.indexAny l [34, 10] = (l.takeWhile (fun x => !(x == 34 || x == 10))).length)
  | [] => ⟨fun _ => rfl, by simp⟩
  | c :: r => by
    obtain ⟨h1, h2⟩ := indexAny_take r
    have hc : ([34, 10] : List UInt8).contains c = (c == 34 || c == 10) := by
      simp only [List.contains, List.elem]
      cases (c == 34) <;> cases (c == 10) <;> rfl
    unfold Lib.indexAny
    rw [hc, List.takeWhile_cons]
    cases hp : (c == 34 || c == 10) with
    | true => simp
    | false =>
      simp only [Bool.not_false, if_true, List.length_cons, List.drop_succ_cons, Bool.false_eq_true, if_false]
      refine ⟨fun h => by rw [h1 h]; rfl, fun d t h => ?_⟩
      rw [h2 d t h]
      rw [if_neg (by simp)]
      rfl

def numR (w r : List UInt8) : Except Nat Tk := match r with
  | [] => .ok ⟨2, val w, w, w.length⟩
  | d :: _ => if isL d || d == 95 then .error 4 else .ok ⟨2, val w, w, w.length⟩
def strR (w r : List UInt8) : Except Nat Tk := match r with
  | [] => .error 6
  | d :: _ => if d == 10 then .error 6 else if 400 < w.length then .error 2 else .ok ⟨3, 0, w, w.length + 2⟩
def symR (c : UInt8) (r : List UInt8) : Except Nat Tk := match r with
  | 61 :: _ => .ok ⟨4, 0, [c, 61], 2⟩
  | _ => if c == 33 then .error 3 else .ok ⟨4, 0, [c], 1⟩
theorem tok_num (x : UInt8) (l : List UInt8) (h3 : isL x = false) (h4 : isD x = true) : tok (x :: l) = if 13 < ((x :: l).takeWhile isD).length then .error 4 else numR ((x :: l).takeWhile isD) ((x :: l).drop ((x :: l).takeWhile isD).length) := by
  simp only [tok, h3, h4, if_true, Bool.false_eq_true, if_false]
  rfl
theorem tok_str (x : UInt8) (l : List UInt8) (h3 : isL x = false) (h4 : isD x = false) (h6 : (x == 34) = true) : tok (x :: l) = strR (l.takeWhile (fun x => !(x == 34 || x == 10))) (l.drop (l.takeWhile (fun x => !(x == 34 || x == 10))).length) := by
  simp only [tok, h3, h4, h6, if_true, Bool.false_eq_true, if_false]
  rfl
theorem tok_sym (x : UInt8) (l : List UInt8) (h3 : isL x = false) (h4 : isD x = false) (h6 : (x == 34) = false) (h7 : (x == 33 || x == 60 || x == 62) = true) : tok (x :: l) = symR x l := by
  simp only [tok, h3, h4, h6, h7, if_true, Bool.false_eq_true, if_false]
  rfl
theorem tok_rest (x : UInt8) (l : List UInt8) (h3 : isL x = false) (h4 : isD x = false) (h6 : (x == 34) = false) (h7 : (x == 33 || x == 60 || x == 62) = false) : tok (x :: l) = if isS x then .ok ⟨4, 0, [x], 1⟩ else .error 3 := by
  simp only [tok, h3, h4, h6, h7, if_true, Bool.false_eq_true, if_false]

def NextSays (s : ByteArray) (i : Nat) (w : World) (e : Ending) (w' : World) : Prop := e = .returned (nextV (tok (rest s i)) i) ∧ Below w.heap.size w w'

theorem next_any (g : Nat) (s : ByteArray) (i : Nat) (w : World) (hs : s.size ≤ 1000000) (hg : Scan w g s) (hi : i < s.size) :
    Calls Tryd.prog 24 #[.pointer (some ⟨g, 0, none⟩), .int .i64 i] w (NextSays s i w) := by
  have hrc := rest_cons s i hi
  obtain ⟨x, hx⟩ : ∃ x : UInt8, s[i]'hi = x := ⟨_, rfl⟩
  rw [hx] at hrc
  obtain ⟨f1, f2, f3, f4, f5, f6, f7, f8, f9⟩ := cls_facts x
  have hlen := rest_length s i
  have ht : ∀ r, tok (rest s i) = r → ∀ e w', (e = .returned (nextV r i) ∧ Below w.heap.size w w') → NextSays s i w e w' := by
    rintro r rfl e w' h
    exact h
  by_cases h3 : isL x = true
  · have hc : (cls x : Int) = 3 := by rw [h3] at f3; exact beq_iff_eq.1 f3
    have hrun := run_take [3, 4, 5] isW runW (rest s i)
    obtain ⟨r, e1, e2, e3⟩ := takeWhile_split isW (rest s i)
    generalize hw : (rest s i).takeWhile isW = wd at *
    have hle : wd.length ≤ (rest s i).length := by rw [e1, List.length_append]; omega
    have htok : tok (rest s i) = if 24 < wd.length then .error 2 else .ok ⟨1, 0, wd, wd.length⟩ := by
      rw [← hw, hrc]
      simp only [tok, h3, if_true]
    by_cases hl : 24 < wd.length
    · rw [if_pos hl] at htok
      exact (next_name_long g s i (i + wd.length) w x hs hg hi hx hc (by rw [hrun]) (by omega) (by omega) (by omega)).mono (ht _ htok)
    · rw [if_neg hl] at htok
      refine (next_name g s i (i + wd.length) w x hs hg hi hx hc (by rw [hrun]) (by omega) (by omega) (by omega)).mono fun e w' h => ht _ htok e w' ?_
      rw [bs_extract s i (i + wd.length) wd r e1 rfl] at h
      exact h
  · by_cases h4 : isD x = true
    · have hc : (cls x : Int) = 4 := by rw [h4] at f4; exact beq_iff_eq.1 f4
      have hrun := run_take [4] isD runD (rest s i)
      obtain ⟨r, e1, e2, e3⟩ := takeWhile_split isD (rest s i)
      have hwd : (rest s i).takeWhile isD = x :: (rest s (i + 1)).takeWhile isD := by rw [hrc, List.takeWhile_cons, if_pos h4]
      generalize hw : (rest s i).takeWhile isD = wd at *
      have hle : wd.length ≤ (rest s i).length := by rw [e1, List.length_append]; omega
      have hdr : (rest s i).drop wd.length = r := by rw [e1, List.drop_left]
      have hr2 : rest s (i + wd.length) = r := by rw [← rest_drop, hdr]
      have hat := atN_rest s (i + wd.length)
      rw [hr2] at hat
      have htok : tok (rest s i) = if 13 < wd.length then .error 4 else numR wd r := by
        rw [hrc, tok_num x _ (by simpa using h3) h4, ← hrc, hw, hdr]
      by_cases hl : 13 < wd.length
      · rw [if_pos hl] at htok
        exact (next_num_long g s i (i + wd.length) w x hs hg hi hx hc (by rw [hrun]) (by omega) (by omega) _ rfl (by omega)).mono (ht _ htok)
      · rw [if_neg hl] at htok
        have hval : Lib.atoi (s.extract i (i + wd.length)).data.toList = some (val wd : Int) := by
          rw [bs_extract s i (i + wd.length) wd r e1 rfl]
          show Lib.atoi wd = _
          rw [hwd] at e2 ⊢
          exact atoi_digits x _ e2
        have good : ∀ a : Int, (atN s (i + wd.length) : Int) = a → (a == 3) = false → (a == 5) = false → tok (rest s i) = .ok ⟨2, val wd, wd, wd.length⟩ → Calls Tryd.prog 24 #[.pointer (some ⟨g, 0, none⟩), .int .i64 i] w (NextSays s i w) := by
          intro a ha a3 a5 htok
          refine (next_num g s i (i + wd.length) w x hs hg hi hx hc (by rw [hrun]) (by omega) (by omega) a ha (by omega) a3 a5 _ hval).mono fun e w' h => ht _ htok e w' ?_
          rw [bs_extract s i (i + wd.length) wd r e1 rfl] at h
          exact h
        cases r with
        | nil => exact good 0 (by rw [hat]; rfl) rfl rfl htok
        | cons d t =>
          simp only [numR] at htok
          simp only at hat
          obtain ⟨_, _, g3, g4, g5, _⟩ := cls_facts d
          by_cases hd3 : isL d = true
          · rw [hd3, Bool.true_or, if_pos rfl] at htok
            exact (next_num_after3 g s i (i + wd.length) w x hs hg hi hx hc (by rw [hrun]) (by omega) (by omega) _ rfl (by omega) (by rw [hat, g3]; exact hd3)).mono (ht _ htok)
          · have hd3' : isL d = false := by simpa using hd3
            by_cases hd5 : (d == 95) = true
            · rw [hd5, Bool.or_true, if_pos rfl] at htok
              exact (next_num_after5 g s i (i + wd.length) w x hs hg hi hx hc (by rw [hrun]) (by omega) (by omega) _ rfl (by omega) (by rw [hat, g3]; exact hd3') (by rw [hat, g5]; exact hd5)).mono (ht _ htok)
            · have hd5' : (d == 95) = false := by simpa using hd5
              rw [hd3', hd5', Bool.or_false, if_neg (by simp)] at htok
              exact good _ rfl (by rw [hat, g3]; exact hd3') (by rw [hat, g5]; exact hd5') htok
    · have h3' : isL x = false := by simpa using h3
      have h4' : isD x = false := by simpa using h4
      have hlen1 := rest_length s (i + 1)
      have hp1 : (s.extract (i + 1) s.size).data.toList = rest s (i + 1) := Lib.extract_to_end s (i + 1)
      by_cases h6 : (x == 34) = true
      · have hc : (cls x : Int) = 6 := by rw [h6] at f6; exact beq_iff_eq.1 f6
        obtain ⟨q1, q2⟩ := indexAny_take (rest s (i + 1))
        obtain ⟨r, e1, e2, e3⟩ := takeWhile_split (fun x => !(x == 34 || x == 10)) (rest s (i + 1))
        generalize hw : (rest s (i + 1)).takeWhile (fun x => !(x == 34 || x == 10)) = wd at *
        have hdr : (rest s (i + 1)).drop wd.length = r := by rw [e1, List.drop_left]
        rw [hdr] at q1 q2
        have htok : tok (rest s i) = strR wd r := by
          rw [hrc, tok_str x _ h3' h4' h6, hw, hdr]
        rw [← hp1] at q1 q2
        cases r with
        | nil => exact (next_str_open g s i w x hs hg hi hx hc _ rfl (-1) (q1 rfl) (by omega)).mono (ht _ htok)
        | cons d t =>
          simp only [strR] at htok
          have hq := q2 d t rfl
          have hsz : (s.extract (i + 1) s.size).size = (rest s (i + 1)).length := by rw [← hp1, Lib.size_eq]
          have hql : wd.length < (s.extract (i + 1) s.size).size := by rw [hsz, e1, List.length_append, List.length_cons]; omega
          have hy : (s.extract (i + 1) s.size)[wd.length]'hql = d := by
            have h1 := Lib.data_getElem? (s.extract (i + 1) s.size) wd.length hql
            rw [hp1, e1, List.getElem?_append_right (Nat.le_refl _), Nat.sub_self] at h1
            simpa using h1.symm
          have hd := e3 d t rfl
          by_cases hd10 : (d == 10) = true
          · rw [if_pos hd10] at htok
            have : ((d.toNat : Int) == 10) = true := by
              obtain rfl : d = 10 := by simpa using hd10
              rfl
            exact (next_str_line g s i w x hs hg hi hx hc _ rfl wd.length hq hql d hy this).mono (ht _ htok)
          · rw [if_neg hd10] at htok
            have h34 : d = 34 := by
              have h10 : d ≠ 10 := by simpa using hd10
              simpa [h10] using hd
            have h10' : ((d.toNat : Int) == 10) = false := by subst h34; rfl
            by_cases hl : 400 < wd.length
            · rw [if_pos hl] at htok
              exact (next_str_long g s i w x hs hg hi hx hc _ rfl wd.length hq hql d hy h10' hl).mono (ht _ htok)
            · rw [if_neg hl] at htok
              refine (next_str g s i w x hs hg hi hx hc _ rfl wd.length hq hql d hy h10' (by omega)).mono fun e w' h => ht _ htok e w' ?_
              have hex : (s.extract (i + 1) s.size).extract 0 wd.length = bs wd := by
                refine bs_extract _ 0 wd.length wd (d :: t) ?_ (by omega)
                show List.drop 0 _ = _
                rw [List.drop_zero, hp1, e1]
              rw [hex] at h
              obtain ⟨h1, h2⟩ := h
              refine ⟨?_, h2⟩
              rw [h1]
              simp only [nextV]
              congr 3
      · have h6' : (x == 34) = false := by simpa using h6
        by_cases h7 : (x == 33 || x == 60 || x == 62) = true
        · have htok := tok_sym x (rest s (i + 1)) h3' h4' h6' h7
          rw [← hrc] at htok
          by_cases h61 : ∃ r, rest s (i + 1) = 61 :: r
          · obtain ⟨r, hr⟩ := h61
            have hhp : Lib.hasPrefix (s.extract (i + 1) s.size).data.toList [61] = true := by rw [hp1, hr]; rfl
            have hi2 : i + 2 ≤ s.size := by rw [hr] at hlen1; simp at hlen1; omega
            have htok' : tok (rest s i) = .ok ⟨4, 0, [x, 61], 2⟩ := by rw [htok, hr]; rfl
            have hex : s.extract i (i + 2) = bs [x, 61] := bs_extract s i (i + 2) [x, 61] r (by rw [hrc, hr]; rfl) rfl
            by_cases h33 : (x == 33) = true
            · have hc : (cls x : Int) = 7 := by rw [h33] at f7; exact beq_iff_eq.1 f7
              refine (next_two7 g s i w x hs hg hi hx hc hhp hi2).mono fun e w' h => ht _ htok' e w' ?_
              rw [hex] at h
              exact h
            · have h33' : (x == 33) = false := by simpa using h33
              have hc : (cls x : Int) = 8 := by rw [h33', Bool.false_or] at h7; rw [h7] at f8; exact beq_iff_eq.1 f8
              refine (next_two8 g s i w x hs hg hi hx hc hhp hi2).mono fun e w' h => ht _ htok' e w' ?_
              rw [hex] at h
              exact h
          · have hhp : Lib.hasPrefix (s.extract (i + 1) s.size).data.toList [61] = false := by
              rw [hp1]
              cases hr : rest s (i + 1) with
              | nil => rfl
              | cons d t =>
                have hd : d ≠ 61 := by rintro rfl; exact h61 ⟨t, hr⟩
                simp [Lib.hasPrefix, List.isPrefixOf, Ne.symm hd]
            have hsym : symR x (rest s (i + 1)) = if x == 33 then .error 3 else .ok ⟨4, 0, [x], 1⟩ := by
              unfold symR
              split
              · rename_i r hr; exact absurd ⟨r, hr⟩ h61
              · rfl
            rw [hsym] at htok
            by_cases h33 : (x == 33) = true
            · rw [if_pos h33] at htok
              have hc : (cls x : Int) = 7 := by rw [h33] at f7; exact beq_iff_eq.1 f7
              exact (next_mark g s i w x hs hg hi hx hc hhp).mono (ht _ htok)
            · rw [if_neg h33] at htok
              have h33' : (x == 33) = false := by simpa using h33
              have hc : (cls x : Int) = 8 := by rw [h33', Bool.false_or] at h7; rw [h7] at f8; exact beq_iff_eq.1 f8
              refine (next_angle g s i w x hs hg hi hx hc hhp).mono fun e w' h => ht _ htok e w' ?_
              rw [bs_extract s i (i + 1) [x] _ hrc rfl] at h
              exact h
        · have h7' : (x == 33 || x == 60 || x == 62) = false := by simpa using h7
          have htok := tok_rest x (rest s (i + 1)) h3' h4' h6' h7'
          rw [← hrc] at htok
          by_cases hS : isS x = true
          · rw [if_pos hS] at htok
            have hc : (cls x : Int) = 9 := by rw [hS] at f9; exact beq_iff_eq.1 f9
            refine (next_sym g s i w x hs hg hi hx hc).mono fun e w' h => ht _ htok e w' ?_
            rw [bs_extract s i (i + 1) [x] _ hrc rfl] at h
            exact h
          · rw [if_neg hS] at htok
            have hS' : isS x = false := by simpa using hS
            simp only [Bool.or_eq_false_iff] at h7'
            exact (next_other g s i w x _ hs hg hi hx rfl (by rw [f3]; exact h3') (by rw [f4]; exact h4') (by rw [f6]; exact h6') (by rw [f7]; exact h7'.1.1) (by rw [f8]; simp [h7'.1.2, h7'.2]) (by rw [f9]; exact hS')).mono (ht _ htok)
end Go.Proofs.YtalgccjkfanaoaaDoor.LxW
