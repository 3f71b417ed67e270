/- The scanner's method 'next': it returns the token at an offset and the offset behind it, or an error, as the plain lexer tells it. -/
import Derived.Test.YtalgccjkfanaoaaDoorLexD
namespace Go.Proofs.YtalgccjkfanaoaaDoor.LxW
open Go.RowKit Go.Proofs.YtalgccjkfanaoaaDoorW.PrintWords Go.Proofs.YtalgccjkfanaoaaDoorW.PrintLast Go.Proofs.YtalgccjkfanaoaaDoorW.PrintMore
open Go.Proofs.YtalgccjkfanaoaaDoor Go.Proofs.YtalgccjkfanaoaaDoor.LxP
set_option linter.unusedVariables false
set_option linter.unusedSimpArgs false

def bs (l : List UInt8) : ByteArray := ⟨l.toArray⟩
/-- What 'next' returns. -/
def nextV (r : Except Nat Tk) (i : Nat) : Value := match r with
  | .error e => .tuple #[.agg #[.int .i64 0, .int .i64 0, .int .i64 0, .string ⟨#[]⟩], .int .i64 0, .int .i64 e]
  | .ok t => .tuple #[.agg #[.int .i64 t.kind, .int .i64 i, .int .i64 t.n, .string (bs t.text)], .int .i64 ((i + t.width : Nat) : Int), .int .i64 0]
theorem bs_extract (s : ByteArray) (i n : Nat) (l r : List UInt8) (h : rest s i = l ++ r) (hl : n = i + l.length) : s.extract i n = bs l := by
  have e : (s.extract i n).data.toList = l := by
    rw [Lib.extract_data]
    show (rest s i).take (n - i) = l
    rw [h, hl, Nat.add_sub_cancel_left, List.take_left]
  unfold bs
  cases hs : s.extract i n with
  | mk d =>
    rw [hs] at e
    rw [← e]

theorem cut_str (s : ByteArray) (lo hi : Int) (l h : Nat) (e1 : lo = l) (e2 : hi = h) (h1 : l ≤ h) (h2 : h ≤ s.size) : ∀ w, (Instr.slice 9 (.string s) (some (.int .i64 lo)) (some (.int .i64 hi)) none).run Tryd.prog w = .ok (.string (s.extract l h)) w := fun w => by
  subst e1 e2
  rw [run_slice_string w 9 s .i64 .i64 (l : Int) (h : Int) Tryd.underlying9 (by omega) (by omega) (by omega)]
  rfl

theorem cut_from (s : ByteArray) (lo : Int) (l : Nat) (e1 : lo = l) (h1 : l ≤ s.size) : ∀ w, (Instr.slice 9 (.string s) (some (.int .i64 lo)) none none).run Tryd.prog w = .ok (.string (s.extract l s.size)) w := fun w => by
  subst e1
  rw [run_slice_string_l w 9 s Tryd.underlying9 .i64 (l : Int) (by omega) (by omega)]
  rfl

set_option maxHeartbeats 2000000 in
set_option maxRecDepth 1000000 in
theorem next_sym (g : Nat) (s : ByteArray) (i : Nat) (w : World) (x : UInt8) (hs : s.size ≤ 1000000) (hg : Scan w g s) (hi : i < s.size) (hx : s[i]'hi = x) (hc : (cls x : Int) = 9) :
    Calls Tryd.prog 24 #[.pointer (some ⟨g, 0, none⟩), .int .i64 i] w fun e w' => e = .returned (.tuple #[.agg #[.int .i64 4, .int .i64 i, .int .i64 0, .string (s.extract i (i + 1))], .int .i64 ((i : Int) + 1), .int .i64 0]) ∧ Below w.heap.size w w' := by
  have HG := Lib.hid hg
  have h0 := hg.1
  have hb : g < w.heap.size := World.block_lt_of_cell? w _ hg.1
  have HX := Lib.hid hx
  have HC := Lib.hid hc
  have hi1 : (i : Int) + 1 ≤ (s.size : Int) := by omega
  clear hg hx hc
  have hsl := cut_str s i ((i : Int) + 1) i (i + 1) rfl (by omega) (by omega) (by omega)
  go_enter Tryd.func24, Tryd.ntmps24
  go_wp2_with (first | (go_at_call 31; refine (at_in g s i _ (by omega) (by exact HG.out.below (below_alloc (Below.refl _ _) _)) hi).mono ?_; rintro e w' ⟨rfl, m, rfl⟩; rw [HX.out, HC.out]))
  refine bodyPost_ret (v := .tuple #[.agg #[.int .i64 4, .int .i64 i, .int .i64 0, .string (s.extract i (i + 1))], .int .i64 ((i : Int) + 1), .int .i64 0]) (by simp [results, Tryd.results24, go_sem]) rfl ⟨rfl, (by repeat (first | exact Below.refl _ _ | apply below_alloc | apply pw_below_drewN | refine below_set ?_ (Nat.le_refl _)))⟩

set_option maxHeartbeats 2000000 in
set_option maxRecDepth 1000000 in
theorem next_angle (g : Nat) (s : ByteArray) (i : Nat) (w : World) (x : UInt8) (hs : s.size ≤ 1000000) (hg : Scan w g s) (hi : i < s.size) (hx : s[i]'hi = x) (hc : (cls x : Int) = 8) (hp : Lib.hasPrefix (s.extract (i + 1) s.size).data.toList [61] = false) :
    Calls Tryd.prog 24 #[.pointer (some ⟨g, 0, none⟩), .int .i64 i] w fun e w' => e = .returned (.tuple #[.agg #[.int .i64 4, .int .i64 i, .int .i64 0, .string (s.extract i (i + 1))], .int .i64 ((i : Int) + 1), .int .i64 0]) ∧ Below w.heap.size w w' := by
  have HG := Lib.hid hg
  have h0 := hg.1
  have hb : g < w.heap.size := World.block_lt_of_cell? w _ hg.1
  have HX := Lib.hid hx
  have HC := Lib.hid hc
  have hi1 : (i : Int) + 1 ≤ (s.size : Int) := by omega
  clear hg hx hc
  have hsl := cut_str s i ((i : Int) + 1) i (i + 1) rfl (by omega) (by omega) (by omega)
  have hfr := cut_from s ((i : Int) + 1) (i + 1) (by omega) (by omega)
  have HP : Hid (Lib.hasPrefix (s.extract (i + 1) s.size).data.toList (⟨#[61]⟩ : ByteArray).data.toList = false) := Lib.hid hp
  clear hp
  go_enter Tryd.func24, Tryd.ntmps24
  go_wp2_with (first | (go_at_call 31; refine (at_in g s i _ (by omega) (by exact HG.out.below (below_alloc (Below.refl _ _) _)) hi).mono ?_; rintro e w' ⟨rfl, m, rfl⟩; rw [HX.out, HC.out]) | (go_at_call 35; refine (Tryd.strings_HasPrefix _ _ _).mono ?_; rintro e w' ⟨rfl, hw⟩; rw [hw, HP.out]))
  refine bodyPost_ret (v := .tuple #[.agg #[.int .i64 4, .int .i64 i, .int .i64 0, .string (s.extract i (i + 1))], .int .i64 ((i : Int) + 1), .int .i64 0]) (by simp [results, Tryd.results24, go_sem]) rfl ⟨rfl, (by repeat (first | exact Below.refl _ _ | apply below_alloc | apply pw_below_drewN | refine below_set ?_ (Nat.le_refl _)))⟩

set_option maxHeartbeats 2000000 in
set_option maxRecDepth 1000000 in
theorem next_two8 (g : Nat) (s : ByteArray) (i : Nat) (w : World) (x : UInt8) (hs : s.size ≤ 1000000) (hg : Scan w g s) (hi : i < s.size) (hx : s[i]'hi = x) (hc : (cls x : Int) = 8) (hp : Lib.hasPrefix (s.extract (i + 1) s.size).data.toList [61] = true) (hi2 : i + 2 ≤ s.size) :
    Calls Tryd.prog 24 #[.pointer (some ⟨g, 0, none⟩), .int .i64 i] w fun e w' => e = .returned (.tuple #[.agg #[.int .i64 4, .int .i64 i, .int .i64 0, .string (s.extract i (i + 2))], .int .i64 ((i : Int) + 2), .int .i64 0]) ∧ Below w.heap.size w w' := by
  have HG := Lib.hid hg
  have h0 := hg.1
  have hb : g < w.heap.size := World.block_lt_of_cell? w _ hg.1
  have HX := Lib.hid hx
  have HC := Lib.hid hc
  have hi1 : (i : Int) + 1 ≤ (s.size : Int) := by omega
  clear hg hx hc
  have hsl2 := cut_str s i ((i : Int) + 2) i (i + 2) rfl (by omega) (by omega) (by omega)
  have hfr := cut_from s ((i : Int) + 1) (i + 1) (by omega) (by omega)
  have HP : Hid (Lib.hasPrefix (s.extract (i + 1) s.size).data.toList (⟨#[61]⟩ : ByteArray).data.toList = true) := Lib.hid hp
  clear hp
  go_enter Tryd.func24, Tryd.ntmps24
  go_wp2_with (first | (go_at_call 31; refine (at_in g s i _ (by omega) (by exact HG.out.below (below_alloc (Below.refl _ _) _)) hi).mono ?_; rintro e w' ⟨rfl, m, rfl⟩; rw [HX.out, HC.out]) | (go_at_call 35; refine (Tryd.strings_HasPrefix _ _ _).mono ?_; rintro e w' ⟨rfl, hw⟩; rw [hw, HP.out]))
  refine bodyPost_ret (v := .tuple #[.agg #[.int .i64 4, .int .i64 i, .int .i64 0, .string (s.extract i (i + 2))], .int .i64 ((i : Int) + 2), .int .i64 0]) (by simp [results, Tryd.results24, go_sem]) rfl ⟨rfl, (by repeat (first | exact Below.refl _ _ | apply below_alloc | apply pw_below_drewN | refine below_set ?_ (Nat.le_refl _)))⟩

set_option maxHeartbeats 2000000 in
set_option maxRecDepth 1000000 in
theorem next_two7 (g : Nat) (s : ByteArray) (i : Nat) (w : World) (x : UInt8) (hs : s.size ≤ 1000000) (hg : Scan w g s) (hi : i < s.size) (hx : s[i]'hi = x) (hc : (cls x : Int) = 7) (hp : Lib.hasPrefix (s.extract (i + 1) s.size).data.toList [61] = true) (hi2 : i + 2 ≤ s.size) :
    Calls Tryd.prog 24 #[.pointer (some ⟨g, 0, none⟩), .int .i64 i] w fun e w' => e = .returned (.tuple #[.agg #[.int .i64 4, .int .i64 i, .int .i64 0, .string (s.extract i (i + 2))], .int .i64 ((i : Int) + 2), .int .i64 0]) ∧ Below w.heap.size w w' := by
  have HG := Lib.hid hg
  have h0 := hg.1
  have hb : g < w.heap.size := World.block_lt_of_cell? w _ hg.1
  have HX := Lib.hid hx
  have HC := Lib.hid hc
  have hi1 : (i : Int) + 1 ≤ (s.size : Int) := by omega
  clear hg hx hc
  have hsl2 := cut_str s i ((i : Int) + 2) i (i + 2) rfl (by omega) (by omega) (by omega)
  have hfr := cut_from s ((i : Int) + 1) (i + 1) (by omega) (by omega)
  have HP : Hid (Lib.hasPrefix (s.extract (i + 1) s.size).data.toList (⟨#[61]⟩ : ByteArray).data.toList = true) := Lib.hid hp
  clear hp
  go_enter Tryd.func24, Tryd.ntmps24
  go_wp2_with (first | (go_at_call 31; refine (at_in g s i _ (by omega) (by exact HG.out.below (below_alloc (Below.refl _ _) _)) hi).mono ?_; rintro e w' ⟨rfl, m, rfl⟩; rw [HX.out, HC.out]) | (go_at_call 35; refine (Tryd.strings_HasPrefix _ _ _).mono ?_; rintro e w' ⟨rfl, hw⟩; rw [hw, HP.out]))
  refine bodyPost_ret (v := .tuple #[.agg #[.int .i64 4, .int .i64 i, .int .i64 0, .string (s.extract i (i + 2))], .int .i64 ((i : Int) + 2), .int .i64 0]) (by simp [results, Tryd.results24, go_sem]) rfl ⟨rfl, (by repeat (first | exact Below.refl _ _ | apply below_alloc | apply pw_below_drewN | refine below_set ?_ (Nat.le_refl _)))⟩

set_option maxHeartbeats 2000000 in
set_option maxRecDepth 1000000 in
theorem next_mark (g : Nat) (s : ByteArray) (i : Nat) (w : World) (x : UInt8) (hs : s.size ≤ 1000000) (hg : Scan w g s) (hi : i < s.size) (hx : s[i]'hi = x) (hc : (cls x : Int) = 7) (hp : Lib.hasPrefix (s.extract (i + 1) s.size).data.toList [61] = false) :
    Calls Tryd.prog 24 #[.pointer (some ⟨g, 0, none⟩), .int .i64 i] w fun e w' => e = .returned (.tuple #[.agg #[.int .i64 0, .int .i64 0, .int .i64 0, .string ⟨#[]⟩], .int .i64 0, .int .i64 3]) ∧ Below w.heap.size w w' := by
  have HG := Lib.hid hg
  have h0 := hg.1
  have hb : g < w.heap.size := World.block_lt_of_cell? w _ hg.1
  have HX := Lib.hid hx
  have HC := Lib.hid hc
  have hi1 : (i : Int) + 1 ≤ (s.size : Int) := by omega
  clear hg hx hc
  have hfr := cut_from s ((i : Int) + 1) (i + 1) (by omega) (by omega)
  have HP : Hid (Lib.hasPrefix (s.extract (i + 1) s.size).data.toList (⟨#[61]⟩ : ByteArray).data.toList = false) := Lib.hid hp
  clear hp
  go_enter Tryd.func24, Tryd.ntmps24
  go_wp2_with (first | (go_at_call 31; refine (at_in g s i _ (by omega) (by exact HG.out.below (below_alloc (Below.refl _ _) _)) hi).mono ?_; rintro e w' ⟨rfl, m, rfl⟩; rw [HX.out, HC.out]) | (go_at_call 35; refine (Tryd.strings_HasPrefix _ _ _).mono ?_; rintro e w' ⟨rfl, hw⟩; rw [hw, HP.out]))
  refine bodyPost_ret (v := .tuple #[.agg #[.int .i64 0, .int .i64 0, .int .i64 0, .string ⟨#[]⟩], .int .i64 0, .int .i64 3]) (by simp [results, Tryd.results24, go_sem]) rfl ⟨rfl, (by repeat (first | exact Below.refl _ _ | apply below_alloc | apply pw_below_drewN | refine below_set ?_ (Nat.le_refl _)))⟩

set_option maxHeartbeats 2000000 in
set_option maxRecDepth 1000000 in
theorem next_other (g : Nat) (s : ByteArray) (i : Nat) (w : World) (x : UInt8) (k : Int) (hs : s.size ≤ 1000000) (hg : Scan w g s) (hi : i < s.size) (hx : s[i]'hi = x) (hc : (cls x : Int) = k) (h3 : (k == 3) = false) (h4 : (k == 4) = false) (h6 : (k == 6) = false) (h7 : (k == 7) = false) (h8 : (k == 8) = false) (h9 : (k == 9) = false) :
    Calls Tryd.prog 24 #[.pointer (some ⟨g, 0, none⟩), .int .i64 i] w fun e w' => e = .returned (.tuple #[.agg #[.int .i64 0, .int .i64 0, .int .i64 0, .string ⟨#[]⟩], .int .i64 0, .int .i64 3]) ∧ Below w.heap.size w w' := by
  have HG := Lib.hid hg
  have h0 := hg.1
  have hb : g < w.heap.size := World.block_lt_of_cell? w _ hg.1
  have HX := Lib.hid hx
  have HC := Lib.hid hc
  have hi1 : (i : Int) + 1 ≤ (s.size : Int) := by omega
  clear hg hx hc
  go_enter Tryd.func24, Tryd.ntmps24
  go_wp2_with (first | (go_at_call 31; refine (at_in g s i _ (by omega) (by exact HG.out.below (below_alloc (Below.refl _ _) _)) hi).mono ?_; rintro e w' ⟨rfl, m, rfl⟩; rw [HX.out, HC.out]))
  refine bodyPost_ret (v := .tuple #[.agg #[.int .i64 0, .int .i64 0, .int .i64 0, .string ⟨#[]⟩], .int .i64 0, .int .i64 3]) (by simp [results, Tryd.results24, go_sem]) rfl ⟨rfl, (by repeat (first | exact Below.refl _ _ | apply below_alloc | apply pw_below_drewN | refine below_set ?_ (Nat.le_refl _)))⟩

end Go.Proofs.YtalgccjkfanaoaaDoor.LxW
