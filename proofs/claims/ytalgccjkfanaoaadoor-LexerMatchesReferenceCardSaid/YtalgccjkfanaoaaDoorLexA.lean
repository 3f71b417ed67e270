/- The scanner's methods 'at' and 'while': what they return, for a scanner that lies in memory with the classes of bytes. -/
import Derived.Test.YtalgccjkfanaoaaDoorPL0
import Derived.Test.YtalgccjkfanaoaaDoorLexP
import Derived.Lib.Hide
import Derived.Test.YtalgccjkfanaoaaDoorShelf
namespace Go.Proofs.YtalgccjkfanaoaaDoor.LxW
open Go.RowKit Go.Proofs.YtalgccjkfanaoaaDoorW.PrintWords Go.Proofs.YtalgccjkfanaoaaDoorW.PrintLast Go.Proofs.YtalgccjkfanaoaaDoorW.PrintMore
open Go.Proofs.YtalgccjkfanaoaaDoor Go.Proofs.YtalgccjkfanaoaaDoor.LxP
set_option linter.unusedVariables false
set_option linter.unusedSimpArgs false

/-- The class of a byte. -/
def cls (c : UInt8) : Nat := if isL c then 3 else if isD c then 4 else if c == 95 then 5 else if isB c then 1 else if c == 35 then 2 else if c == 34 then 6 else if c == 33 then 7 else if c == 60 || c == 62 then 8 else if isS c then 9 else 0

theorem ret_int {k : IntKind} {a b : Int} (h : a = b) : Ending.returned (.int k a) = .returned (.int k b) := by rw [h]
/-- A scanner over a text lies in block g. -/
def Scan (w : World) (g : Nat) (s : ByteArray) : Prop := w.cell? ⟨g, 0, none⟩ = some (.string s) ∧ ∀ c : UInt8, w.cell? ⟨g, 1 + c.toNat, none⟩ = some (.int .i64 (cls c))
theorem Scan.below {w w1 : World} {g : Nat} {s : ByteArray} (h : Scan w g s) (hb : Below w.heap.size w w1) : Scan w1 g s := ⟨pw_cell_below hb h.1, fun c => pw_cell_below hb (h.2 c)⟩
theorem Scan.drewN {w : World} {g : Nat} {s : ByteArray} (h : Scan w g s) (n : Nat) : Scan (w.drewN n) g s := h

/-- The class at an offset; 0 behind the end. -/
def atN (s : ByteArray) (i : Nat) : Nat := if h : i < s.size then cls (s[i]'h) else 0

set_option maxHeartbeats 400000 in
theorem at_out (g : Nat) (s : ByteArray) (i : Nat) (w : World) (hs : s.size ≤ 9223372036854775807) (hg : Scan w g s) (hi : ¬ i < s.size) :
    Calls Tryd.prog 31 #[.pointer (some ⟨g, 0, none⟩), .int .i64 i] w fun e w' => e = .returned (.int .i64 0) ∧ ∃ n, w' = w.drewN n := by
  have h0 := hg.1
  clear hg
  have hd : decide (s.size ≤ i) = true := decide_eq_true (by omega)
  have hd2 : decide ((s.size : Int) ≤ (i : Int)) = true := decide_eq_true (by omega)
  clear hi
  go_enter Tryd.func31, Tryd.ntmps31
  go_wp2
  go_ret
  exact ⟨rfl, 0, rfl⟩

set_option maxHeartbeats 400000 in
theorem at_in (g : Nat) (s : ByteArray) (i : Nat) (w : World) (hs : s.size ≤ 9223372036854775807) (hg : Scan w g s) (hi : i < s.size) :
    Calls Tryd.prog 31 #[.pointer (some ⟨g, 0, none⟩), .int .i64 i] w fun e w' => e = .returned (.int .i64 (cls (s[i]'hi))) ∧ ∃ n, w' = w.drewN n := by
  have h0 := hg.1
  obtain ⟨x, hx⟩ : ∃ x : UInt8, s[i]'hi = x := ⟨_, rfl⟩
  have h1 := hg.2 x
  clear hg
  have hd : decide (s.size ≤ i) = false := decide_eq_false (by omega)
  have hd2 : decide ((s.size : Int) ≤ (i : Int)) = false := decide_eq_false (by omega)
  have hi0 : (0 : Int) ≤ (i : Int) := by omega
  have hi1 : (i : Int) < (s.size : Int) := by omega
  have hx0 : (x.toNat : Int) < 256 := by have := x.toNat_lt; omega
  go_enter Tryd.func31, Tryd.ntmps31
  go_wp2
  go_quiet (fail)
  go_wp2
  go_ret
  exact ⟨by rw [hx]; rfl, _, rfl⟩

theorem at_any (g : Nat) (s : ByteArray) (i : Nat) (w : World) (hs : s.size ≤ 9223372036854775807) (hg : Scan w g s) :
    Calls Tryd.prog 31 #[.pointer (some ⟨g, 0, none⟩), .int .i64 i] w fun e w' => e = .returned (.int .i64 (atN s i)) ∧ ∃ n, w' = w.drewN n := by
  unfold atN
  by_cases hi : i < s.size
  · rw [dif_pos hi]; exact at_in g s i w hs hg hi
  · rw [dif_neg hi]; exact at_out g s i w hs hg hi

/-- How many bytes from an offset on have classes of a list. -/
def runN (cl : List Int) : List UInt8 → Nat
  | [] => 0
  | c :: r => if cl.contains (cls c : Int) then runN cl r + 1 else 0
def rest (s : ByteArray) (i : Nat) : List UInt8 := s.data.toList.drop i
theorem rest_cons (s : ByteArray) (i : Nat) (h : i < s.size) : rest s i = s[i] :: rest s (i + 1) := by
  unfold rest
  rw [List.drop_eq_getElem_cons (by rw [data_length]; exact h)]
  rfl
theorem rest_nil (s : ByteArray) (i : Nat) (h : ¬ i < s.size) : rest s i = [] := List.drop_eq_nil_of_le (by rw [data_length]; omega)
theorem rest_length (s : ByteArray) (i : Nat) : (rest s i).length = s.size - i := by unfold rest; rw [List.length_drop, data_length]
theorem runN_yes {cl : List Int} {c : UInt8} {r : List UInt8} (h : cl.contains (cls c : Int) = true) : runN cl (c :: r) = runN cl r + 1 := by simp only [runN]; rw [if_pos h]
theorem runN_no {cl : List Int} {c : UInt8} {r : List UInt8} (h : cl.contains (cls c : Int) = false) : runN cl (c :: r) = 0 := by simp only [runN]; rw [if_neg (by rw [h]; decide)]
theorem runN_le (cl : List Int) : ∀ l, runN cl l ≤ l.length
  | [] => Nat.le_refl _
  | c :: r => by
    unfold runN
    have := runN_le cl r
    split
    · simp only [List.length_cons]; omega
    · omega

/-- A row of classes lies in block b. -/
def Cls (w : World) (b : Nat) (cl : List Int) : Prop := ∀ j, j < cl.length → w.cell? ⟨b, 0 + j, none⟩ = some (.int .i64 (cl.getD j 0))
theorem Cls.drewN {w : World} {b : Nat} {cl : List Int} (h : Cls w b cl) (n : Nat) : Cls (w.drewN n) b cl := h
theorem Cls.below {w w1 : World} {b : Nat} {cl : List Int} (h : Cls w b cl) (hb : Below w.heap.size w w1) : Cls w1 b cl := fun j hj => pw_cell_below hb (h j hj)
theorem contains_any (b c : Nat) (cl : List Int) (x : Int) (w : World) (hb : cl.length ≤ 9223372036854775807) (hc : Cls w b cl) :
    Calls Tryd.prog 38 #[.slice (some ⟨b, 0, none⟩) cl.length c, .int .i64 x] w fun e w' => e = .returned (.bool (cl.contains x)) ∧ w = w' := by
  refine (Tryd.slices_Contains_int b 0 cl.length c cl x w (Nat.le_refl _) hb hc).mono ?_
  rintro e w' ⟨rfl, rfl⟩
  rw [List.take_length]
  exact ⟨rfl, rfl⟩

set_option maxHeartbeats 1000000 in
theorem while_any (g : Nat) (s : ByteArray) (i b c : Nat) (cl : List Int) (w : World) (hs : s.size ≤ 9223372036854775806) (hg : Scan w g s) (hb : cl.length ≤ 9223372036854775807) (hc : Cls w b cl) (hi : i ≤ s.size) :
    Calls Tryd.prog 30 #[.pointer (some ⟨g, 0, none⟩), .int .i64 i, .slice (some ⟨b, 0, none⟩) cl.length c] w fun e w' => e = .returned (.int .i64 ((i + runN cl (rest s i) : Nat) : Int)) ∧ ∃ n, w' = w.drewN n := by
  have h0 := hg.1
  have HG := Lib.hid hg
  have HC := Lib.hid hc
  clear hg hc
  go_enter Tryd.func30, Tryd.ntmps30
  go_wp2_with fail
  go_loopw [1] (fun v wr => ∃ (j n : Nat), j ≤ s.size ∧ v = .int .i64 j ∧ wr = w.drewN n ∧ Aside0 (j + runN cl (rest s j) = i + runN cl (rest s i))) (fun v _ => s.size - (intOf v).toNat)
  case atStart => exact ⟨i, 0, hi, rfl, rfl, ⟨rfl⟩⟩
  case round =>
    obtain ⟨j, n, hj, rfl, rfl, HE⟩ := hrel
    by_cases hlt : j < s.size
    · have hx := rest_cons s j hlt
      have hd : decide (j < s.size) = true := decide_eq_true hlt
      have hd2 : decide ((j : Int) < (s.size : Int)) = true := decide_eq_true (by omega)
      obtain ⟨x, hxe⟩ : ∃ x : UInt8, s[j]'hlt = x := ⟨_, rfl⟩
      rw [hxe] at hx
      have HX := Lib.hid hx
      clear hx
      have HXE := Lib.hid hxe
      clear hxe
      by_cases hcx : cl.contains (cls x : Int) = true
      · have HCX := Lib.hid hcx
        clear hcx
        go_wp2_with (first
          | (go_at_call 31; refine (at_in g s j _ (by omega) (HG.out.drewN n) hlt).mono ?_; rintro e w' ⟨rfl, m, rfl⟩; rw [HXE.out])
          | (go_at_call 38; refine (contains_any b c cl (cls x) _ hb (by exact HC.out.drewN _)).mono ?_; rintro e w' ⟨rfl, rfl⟩; rw [HCX.out]))
        go_roundw
        case rel => exact ⟨j + 1, _, by omega, by go_num, rfl, ⟨by have h1 := HE.out; rw [HX.out] at h1; rw [runN_yes HCX.out] at h1; omega⟩⟩
        case measure => simp [intOf]; omega
      · have HCX := Lib.hid (by simpa using hcx : cl.contains (cls x : Int) = false)
        clear hcx
        go_wp2_with (first
          | (go_at_call 31; refine (at_in g s j _ (by omega) (HG.out.drewN n) hlt).mono ?_; rintro e w' ⟨rfl, m, rfl⟩; rw [HXE.out])
          | (go_at_call 38; refine (contains_any b c cl (cls x) _ hb (by exact HC.out.drewN _)).mono ?_; rintro e w' ⟨rfl, rfl⟩; rw [HCX.out]))
        go_ret
        refine ⟨?_, _, rfl⟩
        have h1 := HE.out
        rw [HX.out] at h1
        rw [runN_no HCX.out] at h1
        exact ret_int (by omega)
    · have hd : decide (j < s.size) = false := decide_eq_false hlt
      have hd2 : decide ((j : Int) < (s.size : Int)) = false := decide_eq_false (by omega)
      go_wp2
      go_ret
      refine ⟨?_, _, rfl⟩
      have h1 := HE.out
      rw [rest_nil s j hlt] at h1
      exact ret_int (by simp [runN] at h1; omega)
end Go.Proofs.YtalgccjkfanaoaaDoor.LxW
