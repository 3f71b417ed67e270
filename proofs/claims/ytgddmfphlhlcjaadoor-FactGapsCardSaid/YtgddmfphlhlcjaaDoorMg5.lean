/- The scanner's method 'next' at a name, a number and a text in quotes.
The scanner's method 'next', at every offset of a text: as the plain lexer tells it.
The classes of bytes: what 'classes' returns. -/
import Derived.Test.YtgddmfphlhlcjaaDoorMg4
import Derived.Laws.CopyOwn
import Derived.Deep.WholeRow
namespace Go.Proofs.YtgddmfphlhlcjaaDoor.LxW
open Go.RowKit Go.Proofs.YtgddmfphlhlcjaaDoorW.PrintWords Go.Proofs.YtgddmfphlhlcjaaDoorW.PrintLast Go.Proofs.YtgddmfphlhlcjaaDoorW.PrintMore
open Go.Proofs.YtgddmfphlhlcjaaDoor Go.Proofs.YtgddmfphlhlcjaaDoor.LxP
set_option linter.unusedVariables false
set_option linter.unusedSimpArgs false

theorem Cls.lit (w : World) (b : Nat) (cl : List Int) (cs : Array Value) (h : cs = (cl.map (Value.int .i64)).toArray) (hb : b = w.heap.size) : Cls (w.alloc (.cells cs 3)) b cl := fun j hj => by
  subst h hb
  rw [Nat.zero_add, blk_cell (blk_new w _)]
  simp [List.getD_eq_getElem?_getD, List.getElem?_eq_getElem hj]
theorem cut_to (s : ByteArray) (h : Nat) (h2 : h ≤ s.size) : ∀ w, (Instr.slice 9 (.string s) none (some (.int .i64 (h : Int))) none).run Tryd.prog w = .ok (.string (s.extract 0 h)) w := fun w => by
  rw [run_slice_string_h w 9 s Tryd.underlying9 .i64 (h : Int) (by omega) (by omega)]
  rfl
theorem atoi_any (s : ByteArray) (n : Int) (w : World) (hl : s.size ≤ 18) (h : Lib.atoi s.data.toList = some n) :
    Calls Tryd.prog 52 #[.string s] w fun e w' => e = .returned (.tuple #[.int .i64 n, .nilIface]) ∧ Below w.heap.size w w' := by
  refine (Tryd.strconv_Atoi s n hl h w).mono ?_
  rintro e w' ⟨rfl, t, rfl⟩
  exact ⟨rfl, bytes_below (Below.refl _ _) (Nat.le_refl _) 5 t⟩

set_option maxHeartbeats 4000000 in
set_option maxRecDepth 1000000 in
theorem next_name (g : Nat) (s : ByteArray) (i e : Nat) (w : World) (x : UInt8) (hs : s.size ≤ 1000000) (hg : Scan w g s) (hi : i < s.size) (hx : s[i]'hi = x) (hc : (cls x : Int) = 3) (he : i + runN [3, 4, 5] (rest s i) = e) (hie : i ≤ e) (hes : e ≤ s.size) (hl : e - i ≤ 24) :
    Calls Tryd.prog 42 #[.pointer (some ⟨g, 0, none⟩), .int .i64 i] w fun e' w' => e' = .returned (.tuple #[.agg #[.int .i64 1, .int .i64 i, .int .i64 0, .string (s.extract i e)], .int .i64 e, .int .i64 0]) ∧ Below w.heap.size w w' := by
  have HG := Lib.hid hg
  have h0 := hg.1
  have hb : g < w.heap.size := World.block_lt_of_cell? w _ hg.1
  have HAT : Hid ((atN s i : Int) = 3) := Lib.hid (by unfold atN; rw [dif_pos hi, hx]; exact hc)
  have hi1 : (i : Int) + 1 ≤ (s.size : Int) := by omega
  clear hg hx hc
  have HE := Lib.hid he
  clear he
  have hsl := cut_str s i e i e rfl rfl (by omega) (by omega)
  have ht : decide ((24 : Int) < (e : Int) - (i : Int)) = false := decide_eq_false (by omega)
  go_enter Tryd.func42, Tryd.ntmps42
  go_wp2_with (first | (go_at_call 50; refine (at_any g s _ _ (by omega) (by exact HG.out.below (by repeat (first | exact Below.refl _ _ | apply below_alloc | apply pw_below_drewN)))).mono ?_; rintro e' w' ⟨rfl, m, rfl⟩; first | rw [HAT.out] | rw [HA.out]) | (go_at_call 49; refine (while_any g s i _ 3 [3, 4, 5] _ (by omega) (by exact HG.out.below (below_alloc (pw_below_drewN (below_alloc (Below.refl _ _) _) _) _)) (by simp) (by exact Cls.lit _ _ _ _ rfl (by simp)) (by omega)).mono ?_; rintro e' w' ⟨rfl, m2, rfl⟩; rw [HE.out]))
  refine bodyPost_ret (v := .tuple #[.agg #[.int .i64 1, .int .i64 i, .int .i64 0, .string (s.extract i e)], .int .i64 e, .int .i64 0]) (by simp [results, Tryd.results42, go_sem]) rfl ⟨rfl, (by repeat (first | exact Below.refl _ _ | exact HBZ | apply below_alloc | apply pw_below_drewN | refine below_set ?_ (Nat.le_refl _)))⟩

set_option maxHeartbeats 4000000 in
set_option maxRecDepth 1000000 in
theorem next_name_long (g : Nat) (s : ByteArray) (i e : Nat) (w : World) (x : UInt8) (hs : s.size ≤ 1000000) (hg : Scan w g s) (hi : i < s.size) (hx : s[i]'hi = x) (hc : (cls x : Int) = 3) (he : i + runN [3, 4, 5] (rest s i) = e) (hie : i ≤ e) (hes : e ≤ s.size) (hl : 24 < e - i) :
    Calls Tryd.prog 42 #[.pointer (some ⟨g, 0, none⟩), .int .i64 i] w fun e' w' => e' = .returned (.tuple #[.agg #[.int .i64 0, .int .i64 0, .int .i64 0, .string ⟨#[]⟩], .int .i64 0, .int .i64 2]) ∧ Below w.heap.size w w' := by
  have HG := Lib.hid hg
  have h0 := hg.1
  have hb : g < w.heap.size := World.block_lt_of_cell? w _ hg.1
  have HAT : Hid ((atN s i : Int) = 3) := Lib.hid (by unfold atN; rw [dif_pos hi, hx]; exact hc)
  have hi1 : (i : Int) + 1 ≤ (s.size : Int) := by omega
  clear hg hx hc
  have HE := Lib.hid he
  clear he
  have ht : decide ((24 : Int) < (e : Int) - (i : Int)) = true := decide_eq_true (by omega)
  go_enter Tryd.func42, Tryd.ntmps42
  go_wp2_with (first | (go_at_call 50; refine (at_any g s _ _ (by omega) (by exact HG.out.below (by repeat (first | exact Below.refl _ _ | apply below_alloc | apply pw_below_drewN)))).mono ?_; rintro e' w' ⟨rfl, m, rfl⟩; first | rw [HAT.out] | rw [HA.out]) | (go_at_call 49; refine (while_any g s i _ 3 [3, 4, 5] _ (by omega) (by exact HG.out.below (below_alloc (pw_below_drewN (below_alloc (Below.refl _ _) _) _) _)) (by simp) (by exact Cls.lit _ _ _ _ rfl (by simp)) (by omega)).mono ?_; rintro e' w' ⟨rfl, m2, rfl⟩; rw [HE.out]))
  refine bodyPost_ret (v := .tuple #[.agg #[.int .i64 0, .int .i64 0, .int .i64 0, .string ⟨#[]⟩], .int .i64 0, .int .i64 2]) (by simp [results, Tryd.results42, go_sem]) rfl ⟨rfl, (by repeat (first | exact Below.refl _ _ | exact HBZ | apply below_alloc | apply pw_below_drewN | refine below_set ?_ (Nat.le_refl _)))⟩

set_option maxHeartbeats 4000000 in
set_option maxRecDepth 1000000 in
theorem next_num_long (g : Nat) (s : ByteArray) (i e : Nat) (w : World) (x : UInt8) (hs : s.size ≤ 1000000) (hg : Scan w g s) (hi : i < s.size) (hx : s[i]'hi = x) (hc : (cls x : Int) = 4) (he : i + runN [4] (rest s i) = e) (hie : i ≤ e) (hes : e ≤ s.size) (a : Int) (ha : (atN s e : Int) = a) (hl : 13 < e - i) :
    Calls Tryd.prog 42 #[.pointer (some ⟨g, 0, none⟩), .int .i64 i] w fun e' w' => e' = .returned (.tuple #[.agg #[.int .i64 0, .int .i64 0, .int .i64 0, .string ⟨#[]⟩], .int .i64 0, .int .i64 4]) ∧ Below w.heap.size w w' := by
  have HG := Lib.hid hg
  have h0 := hg.1
  have hb : g < w.heap.size := World.block_lt_of_cell? w _ hg.1
  have HAT : Hid ((atN s i : Int) = 4) := Lib.hid (by unfold atN; rw [dif_pos hi, hx]; exact hc)
  have hi1 : (i : Int) + 1 ≤ (s.size : Int) := by omega
  clear hg hx hc
  have HE := Lib.hid he
  clear he
  have HA := Lib.hid ha
  clear ha
  have ht : decide ((13 : Int) < (e : Int) - (i : Int)) = true := decide_eq_true (by omega)
  go_enter Tryd.func42, Tryd.ntmps42
  go_wp2_with (first | (go_at_call 50; refine (at_any g s _ _ (by omega) (by exact HG.out.below (by repeat (first | exact Below.refl _ _ | apply below_alloc | apply pw_below_drewN)))).mono ?_; rintro e' w' ⟨rfl, m, rfl⟩; first | rw [HAT.out] | rw [HA.out]) | (go_at_call 49; refine (while_any g s i _ 1 [4] _ (by omega) (by exact HG.out.below (below_alloc (pw_below_drewN (below_alloc (Below.refl _ _) _) _) _)) (by simp) (by exact Cls.lit _ _ _ _ rfl (by simp)) (by omega)).mono ?_; rintro e' w' ⟨rfl, m2, rfl⟩; rw [HE.out]))
  refine bodyPost_ret (v := .tuple #[.agg #[.int .i64 0, .int .i64 0, .int .i64 0, .string ⟨#[]⟩], .int .i64 0, .int .i64 4]) (by simp [results, Tryd.results42, go_sem]) rfl ⟨rfl, (by repeat (first | exact Below.refl _ _ | exact HBZ | apply below_alloc | apply pw_below_drewN | refine below_set ?_ (Nat.le_refl _)))⟩

set_option maxHeartbeats 4000000 in
set_option maxRecDepth 1000000 in
theorem next_num_after3 (g : Nat) (s : ByteArray) (i e : Nat) (w : World) (x : UInt8) (hs : s.size ≤ 1000000) (hg : Scan w g s) (hi : i < s.size) (hx : s[i]'hi = x) (hc : (cls x : Int) = 4) (he : i + runN [4] (rest s i) = e) (hie : i ≤ e) (hes : e ≤ s.size) (a : Int) (ha : (atN s e : Int) = a) (hl : e - i ≤ 13) (h3 : (a == 3) = true) :
    Calls Tryd.prog 42 #[.pointer (some ⟨g, 0, none⟩), .int .i64 i] w fun e' w' => e' = .returned (.tuple #[.agg #[.int .i64 0, .int .i64 0, .int .i64 0, .string ⟨#[]⟩], .int .i64 0, .int .i64 4]) ∧ Below w.heap.size w w' := by
  have HG := Lib.hid hg
  have h0 := hg.1
  have hb : g < w.heap.size := World.block_lt_of_cell? w _ hg.1
  have HAT : Hid ((atN s i : Int) = 4) := Lib.hid (by unfold atN; rw [dif_pos hi, hx]; exact hc)
  have hi1 : (i : Int) + 1 ≤ (s.size : Int) := by omega
  clear hg hx hc
  have HE := Lib.hid he
  clear he
  have HA := Lib.hid ha
  clear ha
  have ht : decide ((13 : Int) < (e : Int) - (i : Int)) = false := decide_eq_false (by omega)
  go_enter Tryd.func42, Tryd.ntmps42
  go_wp2_with (first | (go_at_call 50; refine (at_any g s _ _ (by omega) (by exact HG.out.below (by repeat (first | exact Below.refl _ _ | apply below_alloc | apply pw_below_drewN)))).mono ?_; rintro e' w' ⟨rfl, m, rfl⟩; first | rw [HAT.out] | rw [HA.out]) | (go_at_call 49; refine (while_any g s i _ 1 [4] _ (by omega) (by exact HG.out.below (below_alloc (pw_below_drewN (below_alloc (Below.refl _ _) _) _) _)) (by simp) (by exact Cls.lit _ _ _ _ rfl (by simp)) (by omega)).mono ?_; rintro e' w' ⟨rfl, m2, rfl⟩; rw [HE.out]))
  refine bodyPost_ret (v := .tuple #[.agg #[.int .i64 0, .int .i64 0, .int .i64 0, .string ⟨#[]⟩], .int .i64 0, .int .i64 4]) (by simp [results, Tryd.results42, go_sem]) rfl ⟨rfl, (by repeat (first | exact Below.refl _ _ | exact HBZ | apply below_alloc | apply pw_below_drewN | refine below_set ?_ (Nat.le_refl _)))⟩

set_option maxHeartbeats 4000000 in
set_option maxRecDepth 1000000 in
theorem next_num_after5 (g : Nat) (s : ByteArray) (i e : Nat) (w : World) (x : UInt8) (hs : s.size ≤ 1000000) (hg : Scan w g s) (hi : i < s.size) (hx : s[i]'hi = x) (hc : (cls x : Int) = 4) (he : i + runN [4] (rest s i) = e) (hie : i ≤ e) (hes : e ≤ s.size) (a : Int) (ha : (atN s e : Int) = a) (hl : e - i ≤ 13) (h3 : (a == 3) = false) (h5 : (a == 5) = true) :
    Calls Tryd.prog 42 #[.pointer (some ⟨g, 0, none⟩), .int .i64 i] w fun e' w' => e' = .returned (.tuple #[.agg #[.int .i64 0, .int .i64 0, .int .i64 0, .string ⟨#[]⟩], .int .i64 0, .int .i64 4]) ∧ Below w.heap.size w w' := by
  have HG := Lib.hid hg
  have h0 := hg.1
  have hb : g < w.heap.size := World.block_lt_of_cell? w _ hg.1
  have HAT : Hid ((atN s i : Int) = 4) := Lib.hid (by unfold atN; rw [dif_pos hi, hx]; exact hc)
  have hi1 : (i : Int) + 1 ≤ (s.size : Int) := by omega
  clear hg hx hc
  have HE := Lib.hid he
  clear he
  have HA := Lib.hid ha
  clear ha
  have ht : decide ((13 : Int) < (e : Int) - (i : Int)) = false := decide_eq_false (by omega)
  go_enter Tryd.func42, Tryd.ntmps42
  go_wp2_with (first | (go_at_call 50; refine (at_any g s _ _ (by omega) (by exact HG.out.below (by repeat (first | exact Below.refl _ _ | apply below_alloc | apply pw_below_drewN)))).mono ?_; rintro e' w' ⟨rfl, m, rfl⟩; first | rw [HAT.out] | rw [HA.out]) | (go_at_call 49; refine (while_any g s i _ 1 [4] _ (by omega) (by exact HG.out.below (below_alloc (pw_below_drewN (below_alloc (Below.refl _ _) _) _) _)) (by simp) (by exact Cls.lit _ _ _ _ rfl (by simp)) (by omega)).mono ?_; rintro e' w' ⟨rfl, m2, rfl⟩; rw [HE.out]))
  refine bodyPost_ret (v := .tuple #[.agg #[.int .i64 0, .int .i64 0, .int .i64 0, .string ⟨#[]⟩], .int .i64 0, .int .i64 4]) (by simp [results, Tryd.results42, go_sem]) rfl ⟨rfl, (by repeat (first | exact Below.refl _ _ | exact HBZ | apply below_alloc | apply pw_below_drewN | refine below_set ?_ (Nat.le_refl _)))⟩

set_option maxHeartbeats 4000000 in
set_option maxRecDepth 1000000 in
theorem next_num (g : Nat) (s : ByteArray) (i e : Nat) (w : World) (x : UInt8) (hs : s.size ≤ 1000000) (hg : Scan w g s) (hi : i < s.size) (hx : s[i]'hi = x) (hc : (cls x : Int) = 4) (he : i + runN [4] (rest s i) = e) (hie : i ≤ e) (hes : e ≤ s.size) (a : Int) (ha : (atN s e : Int) = a) (hl : e - i ≤ 13) (h3 : (a == 3) = false) (h5 : (a == 5) = false) (n : Int) (hn : Lib.atoi (s.extract i e).data.toList = some n) :
    Calls Tryd.prog 42 #[.pointer (some ⟨g, 0, none⟩), .int .i64 i] w fun e' w' => e' = .returned (.tuple #[.agg #[.int .i64 2, .int .i64 i, .int .i64 n, .string (s.extract i e)], .int .i64 e, .int .i64 0]) ∧ Below w.heap.size w w' := by
  have HG := Lib.hid hg
  have h0 := hg.1
  have hb : g < w.heap.size := World.block_lt_of_cell? w _ hg.1
  have HAT : Hid ((atN s i : Int) = 4) := Lib.hid (by unfold atN; rw [dif_pos hi, hx]; exact hc)
  have hi1 : (i : Int) + 1 ≤ (s.size : Int) := by omega
  clear hg hx hc
  have HE := Lib.hid he
  clear he
  have HA := Lib.hid ha
  clear ha
  have ht : decide ((13 : Int) < (e : Int) - (i : Int)) = false := decide_eq_false (by omega)
  have hsl := cut_str s i e i e rfl rfl (by omega) (by omega)
  have HN := Lib.hid hn
  clear hn
  go_enter Tryd.func42, Tryd.ntmps42
  go_wp2_with (first | (go_at_call 50; refine (at_any g s _ _ (by omega) (by exact HG.out.below (by repeat (first | exact Below.refl _ _ | apply below_alloc | apply pw_below_drewN)))).mono ?_; rintro e' w' ⟨rfl, m, rfl⟩; first | rw [HAT.out] | rw [HA.out]) | (go_at_call 49; refine (while_any g s i _ 1 [4] _ (by omega) (by exact HG.out.below (below_alloc (pw_below_drewN (below_alloc (Below.refl _ _) _) _) _)) (by simp) (by exact Cls.lit _ _ _ _ rfl (by simp)) (by omega)).mono ?_; rintro e' w' ⟨rfl, m2, rfl⟩; rw [HE.out]) | (go_at_call 52; refine (atoi_any _ n _ (by rw [ByteArray.size_extract]; omega) HN.out).mono ?_; rintro e' w1 ⟨rfl, hb1⟩; have HBX := Lib.hid (below_step (by repeat (first | exact Below.refl _ _ | apply below_alloc | apply pw_below_drewN) : Below w.heap.size w _) hb1); have hblk := blk_below (g := w.heap.size) (o := (.cells #[.int .i64 0, .int .i64 0, .int .i64 0, .string (⟨#[]⟩ : ByteArray)] 77 (0, 0))) (by (repeat (first | exact blk_new _ _ | refine blk_drewN ?_ _ | refine blk_alloc ?_ _))) hb1; have hz0 := (blk_cell hblk 0).trans rfl; have hz1 := (blk_cell hblk 1).trans rfl; have hz2 := (blk_cell hblk 2).trans rfl; have hz3 := (blk_cell hblk 3).trans rfl; have hf0 := blk_frozen hblk 0; have hf1 := blk_frozen hblk 1; have hf2 := blk_frozen hblk 2; have hf3 := blk_frozen hblk 3; have hg0 := (HG.out.below HBX.out).1; clear hb1 hblk))
  refine bodyPost_ret (v := .tuple #[.agg #[.int .i64 2, .int .i64 i, .int .i64 n, .string (s.extract i e)], .int .i64 e, .int .i64 0]) (by simp [results, Tryd.results42, go_sem, hz0, hz1, hz2, hz3]) rfl ⟨rfl, by have HBZ := HBX.out; exact (by repeat (first | exact Below.refl _ _ | exact HBZ | apply below_alloc | apply pw_below_drewN | refine below_set ?_ (Nat.le_refl _)))⟩

set_option maxHeartbeats 4000000 in
set_option maxRecDepth 1000000 in
theorem next_str_open (g : Nat) (s : ByteArray) (i : Nat) (w : World) (x : UInt8) (hs : s.size ≤ 1000000) (hg : Scan w g s) (hi : i < s.size) (hx : s[i]'hi = x) (hc : (cls x : Int) = 6) (p : ByteArray) (hp : s.extract (i + 1) s.size = p) (q : Int) (hq : Lib.indexAny p.data.toList [34, 10] = q) (hq0 : q < 0) :
    Calls Tryd.prog 42 #[.pointer (some ⟨g, 0, none⟩), .int .i64 i] w fun e' w' => e' = .returned (.tuple #[.agg #[.int .i64 0, .int .i64 0, .int .i64 0, .string ⟨#[]⟩], .int .i64 0, .int .i64 6]) ∧ Below w.heap.size w w' := by
  have HG := Lib.hid hg
  have h0 := hg.1
  have hb : g < w.heap.size := World.block_lt_of_cell? w _ hg.1
  have HAT : Hid ((atN s i : Int) = 6) := Lib.hid (by unfold atN; rw [dif_pos hi, hx]; exact hc)
  have hi1 : (i : Int) + 1 ≤ (s.size : Int) := by omega
  clear hg hx hc
  have hfr := cut_from s ((i : Int) + 1) (i + 1) (by omega) (by omega)
  rw [hp] at hfr
  have hps : p.size ≤ 1000000 := by rw [← hp, ByteArray.size_extract]; omega
  have HQ := Lib.hid hq
  clear hq hp
  have hd : decide (q < 0) = true := decide_eq_true hq0
  go_enter Tryd.func42, Tryd.ntmps42
  go_wp2_with (first | (go_at_call 50; refine (at_any g s _ _ (by omega) (by exact HG.out.below (by repeat (first | exact Below.refl _ _ | apply below_alloc | apply pw_below_drewN)))).mono ?_; rintro e' w' ⟨rfl, m, rfl⟩; first | rw [HAT.out] | rw [HA.out]) | (go_at_call 53; refine (indexAny_any p _ (by omega)).mono ?_; rintro e' w1 ⟨rfl, hb1⟩; rw [HQ.out]; have HBX := Lib.hid (below_step (by repeat (first | exact Below.refl _ _ | apply below_alloc | apply pw_below_drewN) : Below w.heap.size w _) hb1); have hblk := blk_below (g := w.heap.size) (o := (.cells #[.int .i64 0, .int .i64 0, .int .i64 0, .string (⟨#[]⟩ : ByteArray)] 77 (0, 0))) (by (repeat (first | exact blk_new _ _ | refine blk_drewN ?_ _ | refine blk_alloc ?_ _))) hb1; have hz0 := (blk_cell hblk 0).trans rfl; have hz1 := (blk_cell hblk 1).trans rfl; have hz2 := (blk_cell hblk 2).trans rfl; have hz3 := (blk_cell hblk 3).trans rfl; have hf0 := blk_frozen hblk 0; have hf1 := blk_frozen hblk 1; have hf2 := blk_frozen hblk 2; have hf3 := blk_frozen hblk 3; have hg0 := (HG.out.below HBX.out).1; clear hb1 hblk))
  refine bodyPost_ret (v := .tuple #[.agg #[.int .i64 0, .int .i64 0, .int .i64 0, .string ⟨#[]⟩], .int .i64 0, .int .i64 6]) (by simp [results, Tryd.results42, go_sem, hz0, hz1, hz2, hz3]) rfl ⟨rfl, by have HBZ := HBX.out; exact (by repeat (first | exact Below.refl _ _ | exact HBZ | apply below_alloc | apply pw_below_drewN | refine below_set ?_ (Nat.le_refl _)))⟩

set_option maxHeartbeats 4000000 in
set_option maxRecDepth 1000000 in
theorem next_str_line (g : Nat) (s : ByteArray) (i : Nat) (w : World) (x : UInt8) (hs : s.size ≤ 1000000) (hg : Scan w g s) (hi : i < s.size) (hx : s[i]'hi = x) (hc : (cls x : Int) = 6) (p : ByteArray) (hp : s.extract (i + 1) s.size = p) (q : Nat) (hq : Lib.indexAny p.data.toList [34, 10] = q) (hql : q < p.size) (y : UInt8) (hy : p[q]'hql = y) (hyt : ((y.toNat : Int) == 10) = true) :
    Calls Tryd.prog 42 #[.pointer (some ⟨g, 0, none⟩), .int .i64 i] w fun e' w' => e' = .returned (.tuple #[.agg #[.int .i64 0, .int .i64 0, .int .i64 0, .string ⟨#[]⟩], .int .i64 0, .int .i64 6]) ∧ Below w.heap.size w w' := by
  have HG := Lib.hid hg
  have h0 := hg.1
  have hb : g < w.heap.size := World.block_lt_of_cell? w _ hg.1
  have HAT : Hid ((atN s i : Int) = 6) := Lib.hid (by unfold atN; rw [dif_pos hi, hx]; exact hc)
  have hi1 : (i : Int) + 1 ≤ (s.size : Int) := by omega
  clear hg hx hc
  have hfr := cut_from s ((i : Int) + 1) (i + 1) (by omega) (by omega)
  rw [hp] at hfr
  have hps : p.size ≤ 1000000 := by rw [← hp, ByteArray.size_extract]; omega
  have HQ := Lib.hid hq
  clear hq hp
  have hd : decide ((q : Int) < 0) = false := decide_eq_false (by omega)
  have hq0 : (0 : Int) ≤ (q : Int) := by omega
  have hq1 : (q : Int) < (p.size : Int) := by omega
  have hq2 : (q : Int) ≤ (p.size : Int) := by omega
  go_enter Tryd.func42, Tryd.ntmps42
  go_wp2_with (first | (go_at_call 50; refine (at_any g s _ _ (by omega) (by exact HG.out.below (by repeat (first | exact Below.refl _ _ | apply below_alloc | apply pw_below_drewN)))).mono ?_; rintro e' w' ⟨rfl, m, rfl⟩; first | rw [HAT.out] | rw [HA.out]) | (go_at_call 53; refine (indexAny_any p _ (by omega)).mono ?_; rintro e' w1 ⟨rfl, hb1⟩; rw [HQ.out]; have HBX := Lib.hid (below_step (by repeat (first | exact Below.refl _ _ | apply below_alloc | apply pw_below_drewN) : Below w.heap.size w _) hb1); have hblk := blk_below (g := w.heap.size) (o := (.cells #[.int .i64 0, .int .i64 0, .int .i64 0, .string (⟨#[]⟩ : ByteArray)] 77 (0, 0))) (by (repeat (first | exact blk_new _ _ | refine blk_drewN ?_ _ | refine blk_alloc ?_ _))) hb1; have hz0 := (blk_cell hblk 0).trans rfl; have hz1 := (blk_cell hblk 1).trans rfl; have hz2 := (blk_cell hblk 2).trans rfl; have hz3 := (blk_cell hblk 3).trans rfl; have hf0 := blk_frozen hblk 0; have hf1 := blk_frozen hblk 1; have hf2 := blk_frozen hblk 2; have hf3 := blk_frozen hblk 3; have hg0 := (HG.out.below HBX.out).1; clear hb1 hblk))
  refine bodyPost_ret (v := .tuple #[.agg #[.int .i64 0, .int .i64 0, .int .i64 0, .string ⟨#[]⟩], .int .i64 0, .int .i64 6]) (by simp [results, Tryd.results42, go_sem, hz0, hz1, hz2, hz3]) rfl ⟨rfl, by have HBZ := HBX.out; exact (by repeat (first | exact Below.refl _ _ | exact HBZ | apply below_alloc | apply pw_below_drewN | refine below_set ?_ (Nat.le_refl _)))⟩

set_option maxHeartbeats 4000000 in
set_option maxRecDepth 1000000 in
theorem next_str_long (g : Nat) (s : ByteArray) (i : Nat) (w : World) (x : UInt8) (hs : s.size ≤ 1000000) (hg : Scan w g s) (hi : i < s.size) (hx : s[i]'hi = x) (hc : (cls x : Int) = 6) (p : ByteArray) (hp : s.extract (i + 1) s.size = p) (q : Nat) (hq : Lib.indexAny p.data.toList [34, 10] = q) (hql : q < p.size) (y : UInt8) (hy : p[q]'hql = y) (hyt : ((y.toNat : Int) == 10) = false) (hl : 400 < q) :
    Calls Tryd.prog 42 #[.pointer (some ⟨g, 0, none⟩), .int .i64 i] w fun e' w' => e' = .returned (.tuple #[.agg #[.int .i64 0, .int .i64 0, .int .i64 0, .string ⟨#[]⟩], .int .i64 0, .int .i64 2]) ∧ Below w.heap.size w w' := by
  have HG := Lib.hid hg
  have h0 := hg.1
  have hb : g < w.heap.size := World.block_lt_of_cell? w _ hg.1
  have HAT : Hid ((atN s i : Int) = 6) := Lib.hid (by unfold atN; rw [dif_pos hi, hx]; exact hc)
  have hi1 : (i : Int) + 1 ≤ (s.size : Int) := by omega
  clear hg hx hc
  have hfr := cut_from s ((i : Int) + 1) (i + 1) (by omega) (by omega)
  rw [hp] at hfr
  have hps : p.size ≤ 1000000 := by rw [← hp, ByteArray.size_extract]; omega
  have HQ := Lib.hid hq
  clear hq hp
  have hd : decide ((q : Int) < 0) = false := decide_eq_false (by omega)
  have hq0 : (0 : Int) ≤ (q : Int) := by omega
  have hq1 : (q : Int) < (p.size : Int) := by omega
  have hq2 : (q : Int) ≤ (p.size : Int) := by omega
  have hdl : decide ((400 : Int) < (q : Int)) = true := decide_eq_true (by omega)
  go_enter Tryd.func42, Tryd.ntmps42
  go_wp2_with (first | (go_at_call 50; refine (at_any g s _ _ (by omega) (by exact HG.out.below (by repeat (first | exact Below.refl _ _ | apply below_alloc | apply pw_below_drewN)))).mono ?_; rintro e' w' ⟨rfl, m, rfl⟩; first | rw [HAT.out] | rw [HA.out]) | (go_at_call 53; refine (indexAny_any p _ (by omega)).mono ?_; rintro e' w1 ⟨rfl, hb1⟩; rw [HQ.out]; have HBX := Lib.hid (below_step (by repeat (first | exact Below.refl _ _ | apply below_alloc | apply pw_below_drewN) : Below w.heap.size w _) hb1); have hblk := blk_below (g := w.heap.size) (o := (.cells #[.int .i64 0, .int .i64 0, .int .i64 0, .string (⟨#[]⟩ : ByteArray)] 77 (0, 0))) (by (repeat (first | exact blk_new _ _ | refine blk_drewN ?_ _ | refine blk_alloc ?_ _))) hb1; have hz0 := (blk_cell hblk 0).trans rfl; have hz1 := (blk_cell hblk 1).trans rfl; have hz2 := (blk_cell hblk 2).trans rfl; have hz3 := (blk_cell hblk 3).trans rfl; have hf0 := blk_frozen hblk 0; have hf1 := blk_frozen hblk 1; have hf2 := blk_frozen hblk 2; have hf3 := blk_frozen hblk 3; have hg0 := (HG.out.below HBX.out).1; clear hb1 hblk))
  refine bodyPost_ret (v := .tuple #[.agg #[.int .i64 0, .int .i64 0, .int .i64 0, .string ⟨#[]⟩], .int .i64 0, .int .i64 2]) (by simp [results, Tryd.results42, go_sem, hz0, hz1, hz2, hz3]) rfl ⟨rfl, by have HBZ := HBX.out; exact (by repeat (first | exact Below.refl _ _ | exact HBZ | apply below_alloc | apply pw_below_drewN | refine below_set ?_ (Nat.le_refl _)))⟩

set_option maxHeartbeats 4000000 in
set_option maxRecDepth 1000000 in
theorem next_str (g : Nat) (s : ByteArray) (i : Nat) (w : World) (x : UInt8) (hs : s.size ≤ 1000000) (hg : Scan w g s) (hi : i < s.size) (hx : s[i]'hi = x) (hc : (cls x : Int) = 6) (p : ByteArray) (hp : s.extract (i + 1) s.size = p) (q : Nat) (hq : Lib.indexAny p.data.toList [34, 10] = q) (hql : q < p.size) (y : UInt8) (hy : p[q]'hql = y) (hyt : ((y.toNat : Int) == 10) = false) (hl : q ≤ 400) :
    Calls Tryd.prog 42 #[.pointer (some ⟨g, 0, none⟩), .int .i64 i] w fun e' w' => e' = .returned (.tuple #[.agg #[.int .i64 3, .int .i64 i, .int .i64 0, .string (p.extract 0 q)], .int .i64 ((i : Int) + (q : Int) + 2), .int .i64 0]) ∧ Below w.heap.size w w' := by
  have HG := Lib.hid hg
  have h0 := hg.1
  have hb : g < w.heap.size := World.block_lt_of_cell? w _ hg.1
  have HAT : Hid ((atN s i : Int) = 6) := Lib.hid (by unfold atN; rw [dif_pos hi, hx]; exact hc)
  have hi1 : (i : Int) + 1 ≤ (s.size : Int) := by omega
  clear hg hx hc
  have hfr := cut_from s ((i : Int) + 1) (i + 1) (by omega) (by omega)
  rw [hp] at hfr
  have hps : p.size ≤ 1000000 := by rw [← hp, ByteArray.size_extract]; omega
  have HQ := Lib.hid hq
  clear hq hp
  have hd : decide ((q : Int) < 0) = false := decide_eq_false (by omega)
  have hq0 : (0 : Int) ≤ (q : Int) := by omega
  have hq1 : (q : Int) < (p.size : Int) := by omega
  have hq2 : (q : Int) ≤ (p.size : Int) := by omega
  have hdl : decide ((400 : Int) < (q : Int)) = false := decide_eq_false (by omega)
  have hct := cut_to p q (by omega)
  go_enter Tryd.func42, Tryd.ntmps42
  go_wp2_with (first | (go_at_call 50; refine (at_any g s _ _ (by omega) (by exact HG.out.below (by repeat (first | exact Below.refl _ _ | apply below_alloc | apply pw_below_drewN)))).mono ?_; rintro e' w' ⟨rfl, m, rfl⟩; first | rw [HAT.out] | rw [HA.out]) | (go_at_call 53; refine (indexAny_any p _ (by omega)).mono ?_; rintro e' w1 ⟨rfl, hb1⟩; rw [HQ.out]; have HBX := Lib.hid (below_step (by repeat (first | exact Below.refl _ _ | apply below_alloc | apply pw_below_drewN) : Below w.heap.size w _) hb1); have hblk := blk_below (g := w.heap.size) (o := (.cells #[.int .i64 0, .int .i64 0, .int .i64 0, .string (⟨#[]⟩ : ByteArray)] 77 (0, 0))) (by (repeat (first | exact blk_new _ _ | refine blk_drewN ?_ _ | refine blk_alloc ?_ _))) hb1; have hz0 := (blk_cell hblk 0).trans rfl; have hz1 := (blk_cell hblk 1).trans rfl; have hz2 := (blk_cell hblk 2).trans rfl; have hz3 := (blk_cell hblk 3).trans rfl; have hf0 := blk_frozen hblk 0; have hf1 := blk_frozen hblk 1; have hf2 := blk_frozen hblk 2; have hf3 := blk_frozen hblk 3; have hg0 := (HG.out.below HBX.out).1; clear hb1 hblk))
  refine bodyPost_ret (v := .tuple #[.agg #[.int .i64 3, .int .i64 i, .int .i64 0, .string (p.extract 0 q)], .int .i64 ((i : Int) + (q : Int) + 2), .int .i64 0]) (by simp [results, Tryd.results42, go_sem, hz0, hz1, hz2, hz3]) rfl ⟨rfl, by have HBZ := HBX.out; exact (by repeat (first | exact Below.refl _ _ | exact HBZ | apply below_alloc | apply pw_below_drewN | refine below_set ?_ (Nat.le_refl _)))⟩

end Go.Proofs.YtgddmfphlhlcjaaDoor.LxW
namespace Go.Proofs.YtgddmfphlhlcjaaDoor.LxW
open Go.RowKit Go.Proofs.YtgddmfphlhlcjaaDoorW.PrintWords Go.Proofs.YtgddmfphlhlcjaaDoorW.PrintLast Go.Proofs.YtgddmfphlhlcjaaDoorW.PrintMore
open Go.Proofs.YtgddmfphlhlcjaaDoor Go.Proofs.YtgddmfphlhlcjaaDoor.LxP
set_option linter.unusedVariables false
set_option linter.unusedSimpArgs false

theorem cls_eq (c : UInt8) (k : Nat) (p : Bool) (h : ((cls c : Int) == k) = p) : p = true → (cls c : Int) = k := by
  intro hp
  rw [hp] at h
  exact beq_iff_eq.1 h
theorem cls_range : ∀ c : UInt8, cls c ≤ 9 := all_bytes (by decide +kernel)
theorem runW (c : UInt8) : ([3, 4, 5] : List Int).contains (cls c : Int) = isW c := by
  obtain ⟨_, _, h3, h4, h5, _⟩ := cls_facts c
  simp only [List.contains, List.elem, h3, h4, h5, isW]
  cases isL c <;> cases isD c <;> cases (c == 95) <;> rfl
theorem runD (c : UInt8) : ([4] : List Int).contains (cls c : Int) = isD c := by
  obtain ⟨_, _, h3, h4, h5, _⟩ := cls_facts c
  simp only [List.contains, List.elem, h4]
  cases isD c <;> rfl
theorem run_take (cl : List Int) (p : UInt8 → Bool) (h : ∀ c, cl.contains (cls c : Int) = p c) : ∀ l, runN cl l = (l.takeWhile p).length
  | [] => rfl
  | c :: r => by
    rw [List.takeWhile_cons]
    have hc := h c
    cases hp : p c with
    | true =>
      rw [hp] at hc
      rw [runN_yes hc, run_take cl p h r]
      rfl
    | false =>
      rw [hp] at hc
      rw [runN_no hc]
      rfl
theorem digit_val {c : UInt8} (h : isD c = true) : Lib.digitVal c = some (c.toNat - 48) := by
  simp only [isD, Bool.and_eq_true, decide_eq_true_eq, UInt8.le_iff_toNat_le] at h
  unfold Lib.digitVal
  rw [if_pos (show 48 ≤ c.toNat ∧ c.toNat ≤ 57 from h)]
theorem decFrom_digits : ∀ (w : List UInt8) (acc : Nat), (∀ x ∈ w, isD x = true) → Lib.decFrom acc w = some (w.foldl (fun n c => 10 * n + (c.toNat - 48)) acc)
  | [], acc, _ => rfl
  | c :: r, acc, h => by
    unfold Lib.decFrom
    rw [digit_val (h c (by simp))]
    simp only [List.foldl_cons]
    rw [decFrom_digits r _ (fun x hx => h x (by simp [hx])), Nat.mul_comm]
theorem atoi_digits (c : UInt8) (w : List UInt8) (h : ∀ x ∈ c :: w, isD x = true) : Lib.atoi (c :: w) = some (val (c :: w) : Int) := by
  have hc : isD c = true := h c (by simp)
  have h1 : (c == 45) = false ∧ (c == 43) = false := by
    constructor
    · rw [beq_eq_false_iff_ne]; rintro rfl; revert hc; decide
    · rw [beq_eq_false_iff_ne]; rintro rfl; revert hc; decide
  simp only [Lib.atoi, h1.1, h1.2, Bool.false_eq_true, if_false]
  unfold Lib.decNat
  rw [decFrom_digits _ _ h]
  rfl
theorem atN_rest (s : ByteArray) (e : Nat) : atN s e = match rest s e with | [] => 0 | d :: _ => cls d := by
  unfold atN
  split
  · rename_i h; rw [rest_cons s e h]
  · rename_i h; rw [rest_nil s e h]
theorem indexAny_take : ∀ l : List UInt8, (l.drop (l.takeWhile (fun x => !(x == 34 || x == 10))).length = [] → Lib.indexAny l [34, 10] = -1) ∧ (∀ d r, l.drop (l.takeWhile (fun x => !(x == 34 || x == 10))).length = d :: r → Lib.indexAny l [34, 10] = (l.takeWhile (fun x => !(x == 34 || x == 10))).length)
  | [] => ⟨fun _ => rfl, by simp⟩
  | c :: r => by
    obtain ⟨h1, h2⟩ := indexAny_take r
    have hc : ([34, 10] : List UInt8).contains c = (c == 34 || c == 10) := by
      simp only [List.contains, List.elem]
      cases (c == 34) <;> cases (c == 10) <;> rfl
    unfold Lib.indexAny
    rw [hc, List.takeWhile_cons]
    cases hp : (c == 34 || c == 10) with
    | true => simp
    | false =>
      simp only [Bool.not_false, if_true, List.length_cons, List.drop_succ_cons, Bool.false_eq_true, if_false]
      refine ⟨fun h => by rw [h1 h]; rfl, fun d t h => ?_⟩
      rw [h2 d t h]
      rw [if_neg (by simp)]
      rfl

def numR (w r : List UInt8) : Except Nat Tk := match r with
  | [] => .ok ⟨2, val w, w, w.length⟩
  | d :: _ => if isL d || d == 95 then .error 4 else .ok ⟨2, val w, w, w.length⟩
def strR (w r : List UInt8) : Except Nat Tk := match r with
  | [] => .error 6
  | d :: _ => if d == 10 then .error 6 else if 400 < w.length then .error 2 else .ok ⟨3, 0, w, w.length + 2⟩
def symR (c : UInt8) (r : List UInt8) : Except Nat Tk := match r with
  | 61 :: _ => .ok ⟨4, 0, [c, 61], 2⟩
  | _ => if c == 33 then .error 3 else .ok ⟨4, 0, [c], 1⟩
theorem tok_num (x : UInt8) (l : List UInt8) (h3 : isL x = false) (h4 : isD x = true) : tok (x :: l) = if 13 < ((x :: l).takeWhile isD).length then .error 4 else numR ((x :: l).takeWhile isD) ((x :: l).drop ((x :: l).takeWhile isD).length) := by
  simp only [tok, h3, h4, if_true, Bool.false_eq_true, if_false]
  rfl
theorem tok_str (x : UInt8) (l : List UInt8) (h3 : isL x = false) (h4 : isD x = false) (h6 : (x == 34) = true) : tok (x :: l) = strR (l.takeWhile (fun x => !(x == 34 || x == 10))) (l.drop (l.takeWhile (fun x => !(x == 34 || x == 10))).length) := by
  simp only [tok, h3, h4, h6, if_true, Bool.false_eq_true, if_false]
  rfl
theorem tok_sym (x : UInt8) (l : List UInt8) (h3 : isL x = false) (h4 : isD x = false) (h6 : (x == 34) = false) (h7 : (x == 33 || x == 60 || x == 62) = true) : tok (x :: l) = symR x l := by
  simp only [tok, h3, h4, h6, h7, if_true, Bool.false_eq_true, if_false]
  rfl
theorem tok_rest (x : UInt8) (l : List UInt8) (h3 : isL x = false) (h4 : isD x = false) (h6 : (x == 34) = false) (h7 : (x == 33 || x == 60 || x == 62) = false) : tok (x :: l) = if isS x then .ok ⟨4, 0, [x], 1⟩ else .error 3 := by
  simp only [tok, h3, h4, h6, h7, if_true, Bool.false_eq_true, if_false]

def NextSays (s : ByteArray) (i : Nat) (w : World) (e : Ending) (w' : World) : Prop := e = .returned (nextV (tok (rest s i)) i) ∧ Below w.heap.size w w'

theorem next_any (g : Nat) (s : ByteArray) (i : Nat) (w : World) (hs : s.size ≤ 1000000) (hg : Scan w g s) (hi : i < s.size) :
    Calls Tryd.prog 42 #[.pointer (some ⟨g, 0, none⟩), .int .i64 i] w (NextSays s i w) := by
  have hrc := rest_cons s i hi
  obtain ⟨x, hx⟩ : ∃ x : UInt8, s[i]'hi = x := ⟨_, rfl⟩
  rw [hx] at hrc
  obtain ⟨f1, f2, f3, f4, f5, f6, f7, f8, f9⟩ := cls_facts x
  have hlen := rest_length s i
  have ht : ∀ r, tok (rest s i) = r → ∀ e w', (e = .returned (nextV r i) ∧ Below w.heap.size w w') → NextSays s i w e w' := by
    rintro r rfl e w' h
    exact h
  by_cases h3 : isL x = true
  · have hc : (cls x : Int) = 3 := by rw [h3] at f3; exact beq_iff_eq.1 f3
    have hrun := run_take [3, 4, 5] isW runW (rest s i)
    obtain ⟨r, e1, e2, e3⟩ := takeWhile_split isW (rest s i)
    generalize hw : (rest s i).takeWhile isW = wd at *
    have hle : wd.length ≤ (rest s i).length := by rw [e1, List.length_append]; omega
    have htok : tok (rest s i) = if 24 < wd.length then .error 2 else .ok ⟨1, 0, wd, wd.length⟩ := by
      rw [← hw, hrc]
      simp only [tok, h3, if_true]
    by_cases hl : 24 < wd.length
    · rw [if_pos hl] at htok
      exact (next_name_long g s i (i + wd.length) w x hs hg hi hx hc (by rw [hrun]) (by omega) (by omega) (by omega)).mono (ht _ htok)
    · rw [if_neg hl] at htok
      refine (next_name g s i (i + wd.length) w x hs hg hi hx hc (by rw [hrun]) (by omega) (by omega) (by omega)).mono fun e w' h => ht _ htok e w' ?_
      rw [bs_extract s i (i + wd.length) wd r e1 rfl] at h
      exact h
  · by_cases h4 : isD x = true
    · have hc : (cls x : Int) = 4 := by rw [h4] at f4; exact beq_iff_eq.1 f4
      have hrun := run_take [4] isD runD (rest s i)
      obtain ⟨r, e1, e2, e3⟩ := takeWhile_split isD (rest s i)
      have hwd : (rest s i).takeWhile isD = x :: (rest s (i + 1)).takeWhile isD := by rw [hrc, List.takeWhile_cons, if_pos h4]
      generalize hw : (rest s i).takeWhile isD = wd at *
      have hle : wd.length ≤ (rest s i).length := by rw [e1, List.length_append]; omega
      have hdr : (rest s i).drop wd.length = r := by rw [e1, List.drop_left]
      have hr2 : rest s (i + wd.length) = r := by rw [← rest_drop, hdr]
      have hat := atN_rest s (i + wd.length)
      rw [hr2] at hat
      have htok : tok (rest s i) = if 13 < wd.length then .error 4 else numR wd r := by
        rw [hrc, tok_num x _ (by simpa using h3) h4, ← hrc, hw, hdr]
      by_cases hl : 13 < wd.length
      · rw [if_pos hl] at htok
        exact (next_num_long g s i (i + wd.length) w x hs hg hi hx hc (by rw [hrun]) (by omega) (by omega) _ rfl (by omega)).mono (ht _ htok)
      · rw [if_neg hl] at htok
        have hval : Lib.atoi (s.extract i (i + wd.length)).data.toList = some (val wd : Int) := by
          rw [bs_extract s i (i + wd.length) wd r e1 rfl]
          show Lib.atoi wd = _
          rw [hwd] at e2 ⊢
          exact atoi_digits x _ e2
        have good : ∀ a : Int, (atN s (i + wd.length) : Int) = a → (a == 3) = false → (a == 5) = false → tok (rest s i) = .ok ⟨2, val wd, wd, wd.length⟩ → Calls Tryd.prog 42 #[.pointer (some ⟨g, 0, none⟩), .int .i64 i] w (NextSays s i w) := by
          intro a ha a3 a5 htok
          refine (next_num g s i (i + wd.length) w x hs hg hi hx hc (by rw [hrun]) (by omega) (by omega) a ha (by omega) a3 a5 _ hval).mono fun e w' h => ht _ htok e w' ?_
          rw [bs_extract s i (i + wd.length) wd r e1 rfl] at h
          exact h
        cases r with
        | nil => exact good 0 (by rw [hat]; rfl) rfl rfl htok
        | cons d t =>
          simp only [numR] at htok
          simp only at hat
          obtain ⟨_, _, g3, g4, g5, _⟩ := cls_facts d
          by_cases hd3 : isL d = true
          · rw [hd3, Bool.true_or, if_pos rfl] at htok
            exact (next_num_after3 g s i (i + wd.length) w x hs hg hi hx hc (by rw [hrun]) (by omega) (by omega) _ rfl (by omega) (by rw [hat, g3]; exact hd3)).mono (ht _ htok)
          · have hd3' : isL d = false := by simpa using hd3
            by_cases hd5 : (d == 95) = true
            · rw [hd5, Bool.or_true, if_pos rfl] at htok
              exact (next_num_after5 g s i (i + wd.length) w x hs hg hi hx hc (by rw [hrun]) (by omega) (by omega) _ rfl (by omega) (by rw [hat, g3]; exact hd3') (by rw [hat, g5]; exact hd5)).mono (ht _ htok)
            · have hd5' : (d == 95) = false := by simpa using hd5
              rw [hd3', hd5', Bool.or_false, if_neg (by simp)] at htok
              exact good _ rfl (by rw [hat, g3]; exact hd3') (by rw [hat, g5]; exact hd5') htok
    · have h3' : isL x = false := by simpa using h3
      have h4' : isD x = false := by simpa using h4
      have hlen1 := rest_length s (i + 1)
      have hp1 : (s.extract (i + 1) s.size).data.toList = rest s (i + 1) := Lib.extract_to_end s (i + 1)
      by_cases h6 : (x == 34) = true
      · have hc : (cls x : Int) = 6 := by rw [h6] at f6; exact beq_iff_eq.1 f6
        obtain ⟨q1, q2⟩ := indexAny_take (rest s (i + 1))
        obtain ⟨r, e1, e2, e3⟩ := takeWhile_split (fun x => !(x == 34 || x == 10)) (rest s (i + 1))
        generalize hw : (rest s (i + 1)).takeWhile (fun x => !(x == 34 || x == 10)) = wd at *
        have hdr : (rest s (i + 1)).drop wd.length = r := by rw [e1, List.drop_left]
        rw [hdr] at q1 q2
        have htok : tok (rest s i) = strR wd r := by
          rw [hrc, tok_str x _ h3' h4' h6, hw, hdr]
        rw [← hp1] at q1 q2
        cases r with
        | nil => exact (next_str_open g s i w x hs hg hi hx hc _ rfl (-1) (q1 rfl) (by omega)).mono (ht _ htok)
        | cons d t =>
          simp only [strR] at htok
          have hq := q2 d t rfl
          have hsz : (s.extract (i + 1) s.size).size = (rest s (i + 1)).length := by rw [← hp1, Lib.size_eq]
          have hql : wd.length < (s.extract (i + 1) s.size).size := by rw [hsz, e1, List.length_append, List.length_cons]; omega
          have hy : (s.extract (i + 1) s.size)[wd.length]'hql = d := by
            have h1 := Lib.data_getElem? (s.extract (i + 1) s.size) wd.length hql
            rw [hp1, e1, List.getElem?_append_right (Nat.le_refl _), Nat.sub_self] at h1
            simpa using h1.symm
          have hd := e3 d t rfl
          by_cases hd10 : (d == 10) = true
          · rw [if_pos hd10] at htok
            have : ((d.toNat : Int) == 10) = true := by
              obtain rfl : d = 10 := by simpa using hd10
              rfl
            exact (next_str_line g s i w x hs hg hi hx hc _ rfl wd.length hq hql d hy this).mono (ht _ htok)
          · rw [if_neg hd10] at htok
            have h34 : d = 34 := by
              have h10 : d ≠ 10 := by simpa using hd10
              simpa [h10] using hd
            have h10' : ((d.toNat : Int) == 10) = false := by subst h34; rfl
            by_cases hl : 400 < wd.length
            · rw [if_pos hl] at htok
              exact (next_str_long g s i w x hs hg hi hx hc _ rfl wd.length hq hql d hy h10' hl).mono (ht _ htok)
            · rw [if_neg hl] at htok
              refine (next_str g s i w x hs hg hi hx hc _ rfl wd.length hq hql d hy h10' (by omega)).mono fun e w' h => ht _ htok e w' ?_
              have hex : (s.extract (i + 1) s.size).extract 0 wd.length = bs wd := by
                refine bs_extract _ 0 wd.length wd (d :: t) ?_ (by omega)
                show List.drop 0 _ = _
                rw [List.drop_zero, hp1, e1]
              rw [hex] at h
              obtain ⟨h1, h2⟩ := h
              refine ⟨?_, h2⟩
              rw [h1]
              simp only [nextV]
              congr 3
      · have h6' : (x == 34) = false := by simpa using h6
        by_cases h7 : (x == 33 || x == 60 || x == 62) = true
        · have htok := tok_sym x (rest s (i + 1)) h3' h4' h6' h7
          rw [← hrc] at htok
          by_cases h61 : ∃ r, rest s (i + 1) = 61 :: r
          · obtain ⟨r, hr⟩ := h61
            have hhp : Lib.hasPrefix (s.extract (i + 1) s.size).data.toList [61] = true := by rw [hp1, hr]; rfl
            have hi2 : i + 2 ≤ s.size := by rw [hr] at hlen1; simp at hlen1; omega
            have htok' : tok (rest s i) = .ok ⟨4, 0, [x, 61], 2⟩ := by rw [htok, hr]; rfl
            have hex : s.extract i (i + 2) = bs [x, 61] := bs_extract s i (i + 2) [x, 61] r (by rw [hrc, hr]; rfl) rfl
            by_cases h33 : (x == 33) = true
            · have hc : (cls x : Int) = 7 := by rw [h33] at f7; exact beq_iff_eq.1 f7
              refine (next_two7 g s i w x hs hg hi hx hc hhp hi2).mono fun e w' h => ht _ htok' e w' ?_
              rw [hex] at h
              exact h
            · have h33' : (x == 33) = false := by simpa using h33
              have hc : (cls x : Int) = 8 := by rw [h33', Bool.false_or] at h7; rw [h7] at f8; exact beq_iff_eq.1 f8
              refine (next_two8 g s i w x hs hg hi hx hc hhp hi2).mono fun e w' h => ht _ htok' e w' ?_
              rw [hex] at h
              exact h
          · have hhp : Lib.hasPrefix (s.extract (i + 1) s.size).data.toList [61] = false := by
              rw [hp1]
              cases hr : rest s (i + 1) with
              | nil => rfl
              | cons d t =>
                have hd : d ≠ 61 := by rintro rfl; exact h61 ⟨t, hr⟩
                simp [Lib.hasPrefix, List.isPrefixOf, Ne.symm hd]
            have hsym : symR x (rest s (i + 1)) = if x == 33 then .error 3 else .ok ⟨4, 0, [x], 1⟩ := by
              unfold symR
              split
              · rename_i r hr; exact absurd ⟨r, hr⟩ h61
              · rfl
            rw [hsym] at htok
            by_cases h33 : (x == 33) = true
            · rw [if_pos h33] at htok
              have hc : (cls x : Int) = 7 := by rw [h33] at f7; exact beq_iff_eq.1 f7
              exact (next_mark g s i w x hs hg hi hx hc hhp).mono (ht _ htok)
            · rw [if_neg h33] at htok
              have h33' : (x == 33) = false := by simpa using h33
              have hc : (cls x : Int) = 8 := by rw [h33', Bool.false_or] at h7; rw [h7] at f8; exact beq_iff_eq.1 f8
              refine (next_angle g s i w x hs hg hi hx hc hhp).mono fun e w' h => ht _ htok e w' ?_
              rw [bs_extract s i (i + 1) [x] _ hrc rfl] at h
              exact h
        · have h7' : (x == 33 || x == 60 || x == 62) = false := by simpa using h7
          have htok := tok_rest x (rest s (i + 1)) h3' h4' h6' h7'
          rw [← hrc] at htok
          by_cases hS : isS x = true
          · rw [if_pos hS] at htok
            have hc : (cls x : Int) = 9 := by rw [hS] at f9; exact beq_iff_eq.1 f9
            refine (next_sym g s i w x hs hg hi hx hc).mono fun e w' h => ht _ htok e w' ?_
            rw [bs_extract s i (i + 1) [x] _ hrc rfl] at h
            exact h
          · rw [if_neg hS] at htok
            have hS' : isS x = false := by simpa using hS
            simp only [Bool.or_eq_false_iff] at h7'
            exact (next_other g s i w x _ hs hg hi hx rfl (by rw [f3]; exact h3') (by rw [f4]; exact h4') (by rw [f6]; exact h6') (by rw [f7]; exact h7'.1.1) (by rw [f8]; simp [h7'.1.2, h7'.2]) (by rw [f9]; exact hS')).mono (ht _ htok)
end Go.Proofs.YtgddmfphlhlcjaaDoor.LxW
namespace Go.Proofs.YtgddmfphlhlcjaaDoor.LxW
open Go.RowKit Go.Proofs.YtgddmfphlhlcjaaDoorW.PrintWords Go.Proofs.YtgddmfphlhlcjaaDoorW.PrintLast Go.Proofs.YtgddmfphlhlcjaaDoorW.PrintMore
open Go.Proofs.YtgddmfphlhlcjaaDoor Go.Proofs.YtgddmfphlhlcjaaDoor.LxP
set_option linter.unusedVariables false
set_option linter.unusedSimpArgs false

def rowA (f : List Int) : Array Value := (nums .i64 f).toArray
def setN (cl : Int) : List Int → List UInt8 → List Int
  | f, [] => f
  | f, c :: r => setN cl (f.set c.toNat cl) r
theorem setN_length (cl : Int) : ∀ (l : List UInt8) (f : List Int), (setN cl f l).length = f.length
  | [], f => rfl
  | c :: r, f => by rw [setN, setN_length cl r, List.length_set]
theorem rowA_get (f : List Int) (i : Nat) (h : i < f.length) : (rowA f)[i]? = some (.int .i64 (f.getD i 0)) := by
  simp [rowA, nums, List.getD_eq_getElem?_getD, List.getElem?_eq_getElem h]
theorem rowA_set (f : List Int) (i : Nat) (x : Int) : (rowA f).setIfInBounds i (.int .i64 x) = rowA (f.set i x) := by
  simp [rowA, nums, List.map_set]

set_option maxHeartbeats 1000000 in
theorem set_any (b : Nat) (s : ByteArray) (cl : Int) (f : List Int) (w : World) (hs : s.size ≤ 1000) (hf : f.length = 256) (HB : Hid (w.heap[b]? = some (.cells (rowA f) 83 (0, 0)))) :
    Calls Tryd.prog 48 #[.string s, .int .i64 cl, .pointer (some ⟨b, 0, none⟩)] w fun e w' => e = .returned (.tuple #[]) ∧ w' = w.setRow b (rowA (setN cl f s.data.toList)) := by
  have HF := Lib.hid hf
  clear hf
  go_enter Tryd.func48, Tryd.ntmps48
  go_wp2_with fail
  go_loopw [5] (fun v wr => ∃ (k : Nat) (f' : List Int), k ≤ s.size ∧ v = .int .i64 k ∧ Aside0 (f'.length = 256) ∧ Aside0 (setN cl f' (rest s k) = setN cl f s.data.toList) ∧ Aside0 (wr = w.setRow b (rowA f'))) (fun v _ => s.size - (intOf v).toNat)
  case atStart => exact ⟨0, f, by omega, rfl, ⟨HF.out⟩, ⟨rfl⟩, ⟨(setRow_self w b _ _ _ HB.out).symm⟩⟩
  case round =>
    obtain ⟨k, f', hk, rfl, HL, HE, HW⟩ := hrel
    by_cases hlt : k < s.size
    · have hx := rest_cons s k hlt
      obtain ⟨x, hxe⟩ : ∃ x : UInt8, s[k]'hlt = x := ⟨_, rfl⟩
      rw [hxe] at hx
      have HX := Lib.hid hx
      clear hx
      have hxl := x.toNat_lt
      have hx0 : (x.toNat : Int) < 256 := by omega
      have hrow : wr.heap[b]? = some (.cells (rowA f') 83 (0, 0)) := by rw [HW.out]; exact setRow_heap w b _ _ _ _ HB.out
      have hcell : wr.cell? ⟨b, x.toNat, none⟩ = some (.int .i64 (f'.getD x.toNat 0)) := by rw [blk_cell hrow, rowA_get f' x.toNat (by rw [HL.out]; omega)]
      have hfr : wr.frozen? ⟨b, x.toNat, none⟩ = false := blk_frozen hrow _
      have HROW := Lib.hid hrow
      clear hrow
      have hd : decide (k < s.size) = true := decide_eq_true hlt
      have hd2 : decide ((k : Int) < (s.size : Int)) = true := decide_eq_true (by omega)
      go_wp2_with fail
      go_roundw
      case rel =>
        refine ⟨k + 1, f'.set x.toNat cl, by omega, by go_num, ⟨by rw [List.length_set]; exact HL.out⟩, ⟨?_⟩, ⟨?_⟩⟩
        · have h1 := HE.out
          rw [HX.out] at h1
          exact h1
        · rw [setCell_eq_setRow wr b x.toNat _ _ _ _ HROW.out, rowA_set, HW.out, setRow_setRow]
      case measure => simp [intOf]; omega
    · have hd : decide (k < s.size) = false := decide_eq_false hlt
      have hd2 : decide ((k : Int) < (s.size : Int)) = false := decide_eq_false (by omega)
      go_wp2_with fail
      go_end0
      refine ⟨rfl, ?_⟩
      have h1 := HE.out
      rw [rest_nil s k hlt] at h1
      rw [HW.out, ← h1]
      rfl

theorem set_row (b : Nat) (s : ByteArray) (cl : Int) (f f0 : List Int) (w : World) (hs : s.size ≤ 1000) (hf : f.length = 256) (HB : Hid (w.heap[b]? = some (.cells (rowA f0) 83 (0, 0)))) :
    Calls Tryd.prog 48 #[.string s, .int .i64 cl, .pointer (some ⟨b, 0, none⟩)] (w.setRow b (rowA f)) fun e w' => e = .returned (.tuple #[]) ∧ w.setRow b (rowA (setN cl f s.data.toList)) = w' := by
  refine (set_any b s cl f (w.setRow b (rowA f)) hs hf (Lib.hid (setRow_heap w b _ _ _ _ HB.out))).mono ?_
  rintro e w' ⟨rfl, rfl⟩
  exact ⟨rfl, by rw [setRow_setRow]⟩

def zeroL : List Int := List.replicate 256 0
theorem zeroL_length : zeroL.length = 256 := by unfold zeroL; exact List.length_replicate
theorem rowA_size (f : List Int) (h : f.length = 256) : (rowA f).size = 256 := by simp [rowA, nums, h]
theorem rowA_one (f : List Int) : (rowA f).all (·.oneCell') = true := by simp [rowA, nums, Value.oneCell']
theorem info41 : (Tryd.prog.info? 83).map (·.size) = some 256 := by kernel_rfl
/-- The classes of all bytes. -/
def clsL : List Int := (List.range 256).map fun c => (cls (UInt8.ofNat c) : Int)
set_option maxRecDepth 100000 in
theorem clsL_length : clsL.length = 256 := by simp [clsL]
set_option maxRecDepth 100000 in
theorem clsL_eq : setN 9 (setN 8 (setN 7 (setN 6 (setN 2 (setN 1 (setN 5 (setN 4 (setN 3 zeroL
    [97, 98, 99, 100, 101, 102, 103, 104, 105, 106, 107, 108, 109, 110, 111, 112, 113, 114, 115, 116, 117, 118, 119, 120, 121, 122, 65, 66, 67, 68, 69, 70, 71, 72, 73, 74, 75, 76, 77, 78, 79, 80, 81, 82, 83, 84, 85, 86, 87, 88, 89, 90])
    [48, 49, 50, 51, 52, 53, 54, 55, 56, 57]) [95]) [32, 9, 10]) [35]) [34]) [33]) [60, 62]) [59, 44, 46, 58, 40, 41, 91, 93, 123, 125, 61, 43, 45] = clsL := by decide +kernel

set_option maxHeartbeats 4000000 in
set_option maxRecDepth 1000000 in
theorem classes_any (w : World) : Calls Tryd.prog 40 #[] w fun e w' => e = .returned (.agg (rowA clsL)) ∧ Below w.heap.size w w' := by
  have hz : ∀ w, (zeroValue 83).run Tryd.prog w = .ok (.agg (rowA zeroL)) w := fun w => by kernel_rfl
  have hmf : ∀ (fn : Fn) (first cap : Array Value) (w : World), (Instr.makeFunc fn first cap).run Tryd.prog w = .ok (.func fn first cap) w := fun _ _ _ _ => rfl
  go_enter Tryd.func40, Tryd.ntmps40
  go_wp2_with fail
  obtain ⟨b, hb⟩ : ∃ b, w.heap.size + 1 = b := ⟨_, rfl⟩
  have hb0 : w.heap.size ≠ b := by omega
  obtain ⟨W, hW⟩ : ∃ W, (w.alloc (Obj.cells (rowA zeroL) 83)).alloc (Obj.cells (rowA zeroL) 83) = W := ⟨_, rfl⟩
  have HB1 : Hid (W.heap[b]? = some (.cells (rowA zeroL) 83 (0, 0))) := Lib.hid (by rw [← hW, ← hb]; exact heap_alloc2_new w _ _)
  have HB0 : Hid (W.heap[w.heap.size]? = some (.cells (rowA zeroL) 83 (0, 0))) := Lib.hid (by rw [← hW]; exact heap_alloc2_old w _ _)
  have HBE : Hid (Below w.heap.size w W) := Lib.hid (by rw [← hW]; exact below_alloc (below_alloc (Below.refl _ _) _) _)
  have hWr : W.setRow b (rowA zeroL) = W := setRow_self W b _ _ _ HB1.out
  rw [hW, hb, ← hWr]
  clear hW
  have HWR := Lib.hid hWr
  clear hWr hz
  have HBB := Lib.hid hb
  clear hb
  go_wp2_with (first
    | (go_at_call 48; refine (set_row _ _ _ _ zeroL W (by decide) (by simp [setN_length, zeroL_length]) HB1).mono ?_; rintro e w' ⟨rfl, rfl⟩)
    | (refine wpList_load_row rfl 83 _ rfl b rfl 83 (rowA _) (0, 0) _ (setRow_heap W b _ _ _ _ HB1.out) Tryd.underlying83 rfl (by rw [rowA_size _ (by simp [setN_length, zeroL_length])]; exact info41) ?_)
    | (refine wpList_store_row rfl 83 _ _ rfl w.heap.size (rowA _) rfl rfl 83 (rowA zeroL) (by rw [setRow_other W b _ _ hb0]; exact HB0.out) (by rw [rowA_size _ (by simp [setN_length, zeroL_length])]; exact info41) (by rw [rowA_size _ zeroL_length, rowA_size _ (by simp [setN_length, zeroL_length])]) (rowA_one _) ?_))
  refine bodyPost_ret (v := .agg (rowA _)) (results_cell_row Tryd.results40 _ _ w.heap.size 83 (rowA _) (0, 0) _ rfl (setRow_heap _ _ (rowA zeroL) _ _ _ (by rw [setRow_other W b _ _ hb0]; exact HB0.out)) Tryd.underlying83 rfl (by rw [rowA_size _ (by simp [setN_length, zeroL_length])]; exact info41)) rfl ⟨?_, ?_⟩
  · rw [← clsL_eq]
  · exact below_setRow (below_setRow HBE.out (by have := HBB.out; omega) _) (Nat.le_refl _) _
end Go.Proofs.YtgddmfphlhlcjaaDoor.LxW
