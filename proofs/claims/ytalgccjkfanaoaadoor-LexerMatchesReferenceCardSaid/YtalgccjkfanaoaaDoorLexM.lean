/- The scanner's method 'next' at a name, a number and a text in quotes. -/
import Derived.Test.YtalgccjkfanaoaaDoorLexN
namespace Go.Proofs.YtalgccjkfanaoaaDoor.LxW
open Go.RowKit Go.Proofs.YtalgccjkfanaoaaDoorW.PrintWords Go.Proofs.YtalgccjkfanaoaaDoorW.PrintLast Go.Proofs.YtalgccjkfanaoaaDoorW.PrintMore
open Go.Proofs.YtalgccjkfanaoaaDoor Go.Proofs.YtalgccjkfanaoaaDoor.LxP
set_option linter.unusedVariables false
set_option linter.unusedSimpArgs false

theorem Cls.lit (w : World) (b : Nat) (cl : List Int) (cs : Array Value) (h : cs = (cl.map (Value.int .i64)).toArray) (hb : b = w.heap.size) : Cls (w.alloc (.cells cs 3)) b cl := fun j hj => by
  subst h hb
  rw [Nat.zero_add, blk_cell (blk_new w _)]
  simp [List.getD_eq_getElem?_getD, List.getElem?_eq_getElem hj]
theorem cut_to (s : ByteArray) (h : Nat) (h2 : h ≤ s.size) : ∀ w, (Instr.slice 9 (.string s) none (some (.int .i64 (h : Int))) none).run Tryd.prog w = .ok (.string (s.extract 0 h)) w := fun w => by
  rw [run_slice_string_h w 9 s Tryd.underlying9 .i64 (h : Int) (by omega) (by omega)]
  rfl
theorem atoi_any (s : ByteArray) (n : Int) (w : World) (hl : s.size ≤ 18) (h : Lib.atoi s.data.toList = some n) :
    Calls Tryd.prog 33 #[.string s] w fun e w' => e = .returned (.tuple #[.int .i64 n, .nilIface]) ∧ Below w.heap.size w w' := by
  refine (Tryd.strconv_Atoi s n hl h w).mono ?_
  rintro e w' ⟨rfl, t, rfl⟩
  exact ⟨rfl, bytes_below (Below.refl _ _) (Nat.le_refl _) 5 t⟩

set_option maxHeartbeats 4000000 in
set_option maxRecDepth 1000000 in
theorem next_name (g : Nat) (s : ByteArray) (i e : Nat) (w : World) (x : UInt8) (hs : s.size ≤ 1000000) (hg : Scan w g s) (hi : i < s.size) (hx : s[i]'hi = x) (hc : (cls x : Int) = 3) (he : i + runN [3, 4, 5] (rest s i) = e) (hie : i ≤ e) (hes : e ≤ s.size) (hl : e - i ≤ 24) :
    Calls Tryd.prog 24 #[.pointer (some ⟨g, 0, none⟩), .int .i64 i] w fun e' w' => e' = .returned (.tuple #[.agg #[.int .i64 1, .int .i64 i, .int .i64 0, .string (s.extract i e)], .int .i64 e, .int .i64 0]) ∧ Below w.heap.size w w' := by
  have HG := Lib.hid hg
  have h0 := hg.1
  have hb : g < w.heap.size := World.block_lt_of_cell? w _ hg.1
  have HAT : Hid ((atN s i : Int) = 3) := Lib.hid (by unfold atN; rw [dif_pos hi, hx]; exact hc)
  have hi1 : (i : Int) + 1 ≤ (s.size : Int) := by omega
  clear hg hx hc
  have HE := Lib.hid he
  clear he
  have hsl := cut_str s i e i e rfl rfl (by omega) (by omega)
  have ht : decide ((24 : Int) < (e : Int) - (i : Int)) = false := decide_eq_false (by omega)
  go_enter Tryd.func24, Tryd.ntmps24
  go_wp2_with (first | (go_at_call 31; refine (at_any g s _ _ (by omega) (by exact HG.out.below (by repeat (first | exact Below.refl _ _ | apply below_alloc | apply pw_below_drewN)))).mono ?_; rintro e' w' ⟨rfl, m, rfl⟩; first | rw [HAT.out] | rw [HA.out]) | (go_at_call 30; refine (while_any g s i _ 3 [3, 4, 5] _ (by omega) (by exact HG.out.below (below_alloc (pw_below_drewN (below_alloc (Below.refl _ _) _) _) _)) (by simp) (by exact Cls.lit _ _ _ _ rfl (by simp)) (by omega)).mono ?_; rintro e' w' ⟨rfl, m2, rfl⟩; rw [HE.out]))
  refine bodyPost_ret (v := .tuple #[.agg #[.int .i64 1, .int .i64 i, .int .i64 0, .string (s.extract i e)], .int .i64 e, .int .i64 0]) (by simp [results, Tryd.results24, go_sem]) rfl ⟨rfl, (by repeat (first | exact Below.refl _ _ | exact HBZ | apply below_alloc | apply pw_below_drewN | refine below_set ?_ (Nat.le_refl _)))⟩

set_option maxHeartbeats 4000000 in
set_option maxRecDepth 1000000 in
theorem next_name_long (g : Nat) (s : ByteArray) (i e : Nat) (w : World) (x : UInt8) (hs : s.size ≤ 1000000) (hg : Scan w g s) (hi : i < s.size) (hx : s[i]'hi = x) (hc : (cls x : Int) = 3) (he : i + runN [3, 4, 5] (rest s i) = e) (hie : i ≤ e) (hes : e ≤ s.size) (hl : 24 < e - i) :
    Calls Tryd.prog 24 #[.pointer (some ⟨g, 0, none⟩), .int .i64 i] w fun e' w' => e' = .returned (.tuple #[.agg #[.int .i64 0, .int .i64 0, .int .i64 0, .string ⟨#[]⟩], .int .i64 0, .int .i64 2]) ∧ Below w.heap.size w w' := by
  have HG := Lib.hid hg
  have h0 := hg.1
  have hb : g < w.heap.size := World.block_lt_of_cell? w _ hg.1
  have HAT : Hid ((atN s i : Int) = 3) := Lib.hid (by unfold atN; rw [dif_pos hi, hx]; exact hc)
  have hi1 : (i : Int) + 1 ≤ (s.size : Int) := by omega
  clear hg hx hc
  have HE := Lib.hid he
  clear he
  have ht : decide ((24 : Int) < (e : Int) - (i : Int)) = true := decide_eq_true (by omega)
  go_enter Tryd.func24, Tryd.ntmps24
  go_wp2_with (first | (go_at_call 31; refine (at_any g s _ _ (by omega) (by exact HG.out.below (by repeat (first | exact Below.refl _ _ | apply below_alloc | apply pw_below_drewN)))).mono ?_; rintro e' w' ⟨rfl, m, rfl⟩; first | rw [HAT.out] | rw [HA.out]) | (go_at_call 30; refine (while_any g s i _ 3 [3, 4, 5] _ (by omega) (by exact HG.out.below (below_alloc (pw_below_drewN (below_alloc (Below.refl _ _) _) _) _)) (by simp) (by exact Cls.lit _ _ _ _ rfl (by simp)) (by omega)).mono ?_; rintro e' w' ⟨rfl, m2, rfl⟩; rw [HE.out]))
  refine bodyPost_ret (v := .tuple #[.agg #[.int .i64 0, .int .i64 0, .int .i64 0, .string ⟨#[]⟩], .int .i64 0, .int .i64 2]) (by simp [results, Tryd.results24, go_sem]) rfl ⟨rfl, (by repeat (first | exact Below.refl _ _ | exact HBZ | apply below_alloc | apply pw_below_drewN | refine below_set ?_ (Nat.le_refl _)))⟩

set_option maxHeartbeats 4000000 in
set_option maxRecDepth 1000000 in
theorem next_num_long (g : Nat) (s : ByteArray) (i e : Nat) (w : World) (x : UInt8) (hs : s.size ≤ 1000000) (hg : Scan w g s) (hi : i < s.size) (hx : s[i]'hi = x) (hc : (cls x : Int) = 4) (he : i + runN [4] (rest s i) = e) (hie : i ≤ e) (hes : e ≤ s.size) (a : Int) (ha : (atN s e : Int) = a) (hl : 13 < e - i) :
    Calls Tryd.prog 24 #[.pointer (some ⟨g, 0, none⟩), .int .i64 i] w fun e' w' => e' = .returned (.tuple #[.agg #[.int .i64 0, .int .i64 0, .int .i64 0, .string ⟨#[]⟩], .int .i64 0, .int .i64 4]) ∧ Below w.heap.size w w' := by
  have HG := Lib.hid hg
  have h0 := hg.1
  have hb : g < w.heap.size := World.block_lt_of_cell? w _ hg.1
  have HAT : Hid ((atN s i : Int) = 4) := Lib.hid (by unfold atN; rw [dif_pos hi, hx]; exact hc)
  have hi1 : (i : Int) + 1 ≤ (s.size : Int) := by omega
  clear hg hx hc
  have HE := Lib.hid he
  clear he
  have HA := Lib.hid ha
  clear ha
  have ht : decide ((13 : Int) < (e : Int) - (i : Int)) = true := decide_eq_true (by omega)
  go_enter Tryd.func24, Tryd.ntmps24
  go_wp2_with (first | (go_at_call 31; refine (at_any g s _ _ (by omega) (by exact HG.out.below (by repeat (first | exact Below.refl _ _ | apply below_alloc | apply pw_below_drewN)))).mono ?_; rintro e' w' ⟨rfl, m, rfl⟩; first | rw [HAT.out] | rw [HA.out]) | (go_at_call 30; refine (while_any g s i _ 1 [4] _ (by omega) (by exact HG.out.below (below_alloc (pw_below_drewN (below_alloc (Below.refl _ _) _) _) _)) (by simp) (by exact Cls.lit _ _ _ _ rfl (by simp)) (by omega)).mono ?_; rintro e' w' ⟨rfl, m2, rfl⟩; rw [HE.out]))
  refine bodyPost_ret (v := .tuple #[.agg #[.int .i64 0, .int .i64 0, .int .i64 0, .string ⟨#[]⟩], .int .i64 0, .int .i64 4]) (by simp [results, Tryd.results24, go_sem]) rfl ⟨rfl, (by repeat (first | exact Below.refl _ _ | exact HBZ | apply below_alloc | apply pw_below_drewN | refine below_set ?_ (Nat.le_refl _)))⟩

set_option maxHeartbeats 4000000 in
set_option maxRecDepth 1000000 in
theorem next_num_after3 (g : Nat) (s : ByteArray) (i e : Nat) (w : World) (x : UInt8) (hs : s.size ≤ 1000000) (hg : Scan w g s) (hi : i < s.size) (hx : s[i]'hi = x) (hc : (cls x : Int) = 4) (he : i + runN [4] (rest s i) = e) (hie : i ≤ e) (hes : e ≤ s.size) (a : Int) (ha : (atN s e : Int) = a) (hl : e - i ≤ 13) (h3 : (a == 3) = true) :
    Calls Tryd.prog 24 #[.pointer (some ⟨g, 0, none⟩), .int .i64 i] w fun e' w' => e' = .returned (.tuple #[.agg #[.int .i64 0, .int .i64 0, .int .i64 0, .string ⟨#[]⟩], .int .i64 0, .int .i64 4]) ∧ Below w.heap.size w w' := by
  have HG := Lib.hid hg
  have h0 := hg.1
  have hb : g < w.heap.size := World.block_lt_of_cell? w _ hg.1
  have HAT : Hid ((atN s i : Int) = 4) := Lib.hid (by unfold atN; rw [dif_pos hi, hx]; exact hc)
  have hi1 : (i : Int) + 1 ≤ (s.size : Int) := by omega
  clear hg hx hc
  have HE := Lib.hid he
  clear he
  have HA := Lib.hid ha
  clear ha
  have ht : decide ((13 : Int) < (e : Int) - (i : Int)) = false := decide_eq_false (by omega)
  go_enter Tryd.func24, Tryd.ntmps24
  go_wp2_with (first | (go_at_call 31; refine (at_any g s _ _ (by omega) (by exact HG.out.below (by repeat (first | exact Below.refl _ _ | apply below_alloc | apply pw_below_drewN)))).mono ?_; rintro e' w' ⟨rfl, m, rfl⟩; first | rw [HAT.out] | rw [HA.out]) | (go_at_call 30; refine (while_any g s i _ 1 [4] _ (by omega) (by exact HG.out.below (below_alloc (pw_below_drewN (below_alloc (Below.refl _ _) _) _) _)) (by simp) (by exact Cls.lit _ _ _ _ rfl (by simp)) (by omega)).mono ?_; rintro e' w' ⟨rfl, m2, rfl⟩; rw [HE.out]))
  refine bodyPost_ret (v := .tuple #[.agg #[.int .i64 0, .int .i64 0, .int .i64 0, .string ⟨#[]⟩], .int .i64 0, .int .i64 4]) (by simp [results, Tryd.results24, go_sem]) rfl ⟨rfl, (by repeat (first | exact Below.refl _ _ | exact HBZ | apply below_alloc | apply pw_below_drewN | refine below_set ?_ (Nat.le_refl _)))⟩

set_option maxHeartbeats 4000000 in
set_option maxRecDepth 1000000 in
theorem next_num_after5 (g : Nat) (s : ByteArray) (i e : Nat) (w : World) (x : UInt8) (hs : s.size ≤ 1000000) (hg : Scan w g s) (hi : i < s.size) (hx : s[i]'hi = x) (hc : (cls x : Int) = 4) (he : i + runN [4] (rest s i) = e) (hie : i ≤ e) (hes : e ≤ s.size) (a : Int) (ha : (atN s e : Int) = a) (hl : e - i ≤ 13) (h3 : (a == 3) = false) (h5 : (a == 5) = true) :
    Calls Tryd.prog 24 #[.pointer (some ⟨g, 0, none⟩), .int .i64 i] w fun e' w' => e' = .returned (.tuple #[.agg #[.int .i64 0, .int .i64 0, .int .i64 0, .string ⟨#[]⟩], .int .i64 0, .int .i64 4]) ∧ Below w.heap.size w w' := by
  have HG := Lib.hid hg
  have h0 := hg.1
  have hb : g < w.heap.size := World.block_lt_of_cell? w _ hg.1
  have HAT : Hid ((atN s i : Int) = 4) := Lib.hid (by unfold atN; rw [dif_pos hi, hx]; exact hc)
  have hi1 : (i : Int) + 1 ≤ (s.size : Int) := by omega
  clear hg hx hc
  have HE := Lib.hid he
  clear he
  have HA := Lib.hid ha
  clear ha
  have ht : decide ((13 : Int) < (e : Int) - (i : Int)) = false := decide_eq_false (by omega)
  go_enter Tryd.func24, Tryd.ntmps24
  go_wp2_with (first | (go_at_call 31; refine (at_any g s _ _ (by omega) (by exact HG.out.below (by repeat (first | exact Below.refl _ _ | apply below_alloc | apply pw_below_drewN)))).mono ?_; rintro e' w' ⟨rfl, m, rfl⟩; first | rw [HAT.out] | rw [HA.out]) | (go_at_call 30; refine (while_any g s i _ 1 [4] _ (by omega) (by exact HG.out.below (below_alloc (pw_below_drewN (below_alloc (Below.refl _ _) _) _) _)) (by simp) (by exact Cls.lit _ _ _ _ rfl (by simp)) (by omega)).mono ?_; rintro e' w' ⟨rfl, m2, rfl⟩; rw [HE.out]))
  refine bodyPost_ret (v := .tuple #[.agg #[.int .i64 0, .int .i64 0, .int .i64 0, .string ⟨#[]⟩], .int .i64 0, .int .i64 4]) (by simp [results, Tryd.results24, go_sem]) rfl ⟨rfl, (by repeat (first | exact Below.refl _ _ | exact HBZ | apply below_alloc | apply pw_below_drewN | refine below_set ?_ (Nat.le_refl _)))⟩

set_option maxHeartbeats 4000000 in
set_option maxRecDepth 1000000 in
theorem next_num (g : Nat) (s : ByteArray) (i e : Nat) (w : World) (x : UInt8) (hs : s.size ≤ 1000000) (hg : Scan w g s) (hi : i < s.size) (hx : s[i]'hi = x) (hc : (cls x : Int) = 4) (he : i + runN [4] (rest s i) = e) (hie : i ≤ e) (hes : e ≤ s.size) (a : Int) (ha : (atN s e : Int) = a) (hl : e - i ≤ 13) (h3 : (a == 3) = false) (h5 : (a == 5) = false) (n : Int) (hn : Lib.atoi (s.extract i e).data.toList = some n) :
    Calls Tryd.prog 24 #[.pointer (some ⟨g, 0, none⟩), .int .i64 i] w fun e' w' => e' = .returned (.tuple #[.agg #[.int .i64 2, .int .i64 i, .int .i64 n, .string (s.extract i e)], .int .i64 e, .int .i64 0]) ∧ Below w.heap.size w w' := by
  have HG := Lib.hid hg
  have h0 := hg.1
  have hb : g < w.heap.size := World.block_lt_of_cell? w _ hg.1
  have HAT : Hid ((atN s i : Int) = 4) := Lib.hid (by unfold atN; rw [dif_pos hi, hx]; exact hc)
  have hi1 : (i : Int) + 1 ≤ (s.size : Int) := by omega
  clear hg hx hc
  have HE := Lib.hid he
  clear he
  have HA := Lib.hid ha
  clear ha
  have ht : decide ((13 : Int) < (e : Int) - (i : Int)) = false := decide_eq_false (by omega)
  have hsl := cut_str s i e i e rfl rfl (by omega) (by omega)
  have HN := Lib.hid hn
  clear hn
  go_enter Tryd.func24, Tryd.ntmps24
  go_wp2_with (first | (go_at_call 31; refine (at_any g s _ _ (by omega) (by exact HG.out.below (by repeat (first | exact Below.refl _ _ | apply below_alloc | apply pw_below_drewN)))).mono ?_; rintro e' w' ⟨rfl, m, rfl⟩; first | rw [HAT.out] | rw [HA.out]) | (go_at_call 30; refine (while_any g s i _ 1 [4] _ (by omega) (by exact HG.out.below (below_alloc (pw_below_drewN (below_alloc (Below.refl _ _) _) _) _)) (by simp) (by exact Cls.lit _ _ _ _ rfl (by simp)) (by omega)).mono ?_; rintro e' w' ⟨rfl, m2, rfl⟩; rw [HE.out]) | (go_at_call 33; refine (atoi_any _ n _ (by rw [ByteArray.size_extract]; omega) HN.out).mono ?_; rintro e' w1 ⟨rfl, hb1⟩; have HBX := Lib.hid (below_step (by repeat (first | exact Below.refl _ _ | apply below_alloc | apply pw_below_drewN) : Below w.heap.size w _) hb1); have hblk := blk_below (g := w.heap.size) (o := (.cells #[.int .i64 0, .int .i64 0, .int .i64 0, .string (⟨#[]⟩ : ByteArray)] 30 (0, 0))) (by (repeat (first | exact blk_new _ _ | refine blk_drewN ?_ _ | refine blk_alloc ?_ _))) hb1; have hz0 := (blk_cell hblk 0).trans rfl; have hz1 := (blk_cell hblk 1).trans rfl; have hz2 := (blk_cell hblk 2).trans rfl; have hz3 := (blk_cell hblk 3).trans rfl; have hf0 := blk_frozen hblk 0; have hf1 := blk_frozen hblk 1; have hf2 := blk_frozen hblk 2; have hf3 := blk_frozen hblk 3; have hg0 := (HG.out.below HBX.out).1; clear hb1 hblk))
  refine bodyPost_ret (v := .tuple #[.agg #[.int .i64 2, .int .i64 i, .int .i64 n, .string (s.extract i e)], .int .i64 e, .int .i64 0]) (by simp [results, Tryd.results24, go_sem, hz0, hz1, hz2, hz3]) rfl ⟨rfl, by have HBZ := HBX.out; exact (by repeat (first | exact Below.refl _ _ | exact HBZ | apply below_alloc | apply pw_below_drewN | refine below_set ?_ (Nat.le_refl _)))⟩

set_option maxHeartbeats 4000000 in
set_option maxRecDepth 1000000 in
theorem next_str_open (g : Nat) (s : ByteArray) (i : Nat) (w : World) (x : UInt8) (hs : s.size ≤ 1000000) (hg : Scan w g s) (hi : i < s.size) (hx : s[i]'hi = x) (hc : (cls x : Int) = 6) (p : ByteArray) (hp : s.extract (i + 1) s.size = p) (q : Int) (hq : Lib.indexAny p.data.toList [34, 10] = q) (hq0 : q < 0) :
    Calls Tryd.prog 24 #[.pointer (some ⟨g, 0, none⟩), .int .i64 i] w fun e' w' => e' = .returned (.tuple #[.agg #[.int .i64 0, .int .i64 0, .int .i64 0, .string ⟨#[]⟩], .int .i64 0, .int .i64 6]) ∧ Below w.heap.size w w' := by
  have HG := Lib.hid hg
  have h0 := hg.1
  have hb : g < w.heap.size := World.block_lt_of_cell? w _ hg.1
  have HAT : Hid ((atN s i : Int) = 6) := Lib.hid (by unfold atN; rw [dif_pos hi, hx]; exact hc)
  have hi1 : (i : Int) + 1 ≤ (s.size : Int) := by omega
  clear hg hx hc
  have hfr := cut_from s ((i : Int) + 1) (i + 1) (by omega) (by omega)
  rw [hp] at hfr
  have hps : p.size ≤ 1000000 := by rw [← hp, ByteArray.size_extract]; omega
  have HQ := Lib.hid hq
  clear hq hp
  have hd : decide (q < 0) = true := decide_eq_true hq0
  go_enter Tryd.func24, Tryd.ntmps24
  go_wp2_with (first | (go_at_call 31; refine (at_any g s _ _ (by omega) (by exact HG.out.below (by repeat (first | exact Below.refl _ _ | apply below_alloc | apply pw_below_drewN)))).mono ?_; rintro e' w' ⟨rfl, m, rfl⟩; first | rw [HAT.out] | rw [HA.out]) | (go_at_call 34; refine (indexAny_any p _ (by omega)).mono ?_; rintro e' w1 ⟨rfl, hb1⟩; rw [HQ.out]; have HBX := Lib.hid (below_step (by repeat (first | exact Below.refl _ _ | apply below_alloc | apply pw_below_drewN) : Below w.heap.size w _) hb1); have hblk := blk_below (g := w.heap.size) (o := (.cells #[.int .i64 0, .int .i64 0, .int .i64 0, .string (⟨#[]⟩ : ByteArray)] 30 (0, 0))) (by (repeat (first | exact blk_new _ _ | refine blk_drewN ?_ _ | refine blk_alloc ?_ _))) hb1; have hz0 := (blk_cell hblk 0).trans rfl; have hz1 := (blk_cell hblk 1).trans rfl; have hz2 := (blk_cell hblk 2).trans rfl; have hz3 := (blk_cell hblk 3).trans rfl; have hf0 := blk_frozen hblk 0; have hf1 := blk_frozen hblk 1; have hf2 := blk_frozen hblk 2; have hf3 := blk_frozen hblk 3; have hg0 := (HG.out.below HBX.out).1; clear hb1 hblk))
  refine bodyPost_ret (v := .tuple #[.agg #[.int .i64 0, .int .i64 0, .int .i64 0, .string ⟨#[]⟩], .int .i64 0, .int .i64 6]) (by simp [results, Tryd.results24, go_sem, hz0, hz1, hz2, hz3]) rfl ⟨rfl, by have HBZ := HBX.out; exact (by repeat (first | exact Below.refl _ _ | exact HBZ | apply below_alloc | apply pw_below_drewN | refine below_set ?_ (Nat.le_refl _)))⟩

set_option maxHeartbeats 4000000 in
set_option maxRecDepth 1000000 in
theorem next_str_line (g : Nat) (s : ByteArray) (i : Nat) (w : World) (x : UInt8) (hs : s.size ≤ 1000000) (hg : Scan w g s) (hi : i < s.size) (hx : s[i]'hi = x) (hc : (cls x : Int) = 6) (p : ByteArray) (hp : s.extract (i + 1) s.size = p) (q : Nat) (hq : Lib.indexAny p.data.toList [34, 10] = q) (hql : q < p.size) (y : UInt8) (hy : p[q]'hql = y) (hyt : ((y.toNat : Int) == 10) = true) :
    Calls Tryd.prog 24 #[.pointer (some ⟨g, 0, none⟩), .int .i64 i] w fun e' w' => e' = .returned (.tuple #[.agg #[.int .i64 0, .int .i64 0, .int .i64 0, .string ⟨#[]⟩], .int .i64 0, .int .i64 6]) ∧ Below w.heap.size w w' := by
  have HG := Lib.hid hg
  have h0 := hg.1
  have hb : g < w.heap.size := World.block_lt_of_cell? w _ hg.1
  have HAT : Hid ((atN s i : Int) = 6) := Lib.hid (by unfold atN; rw [dif_pos hi, hx]; exact hc)
  have hi1 : (i : Int) + 1 ≤ (s.size : Int) := by omega
  clear hg hx hc
  have hfr := cut_from s ((i : Int) + 1) (i + 1) (by omega) (by omega)
  rw [hp] at hfr
  have hps : p.size ≤ 1000000 := by rw [← hp, ByteArray.size_extract]; omega
  have HQ := Lib.hid hq
  clear hq hp
  have hd : decide ((q : Int) < 0) = false := decide_eq_false (by omega)
  have hq0 : (0 : Int) ≤ (q : Int) := by omega
  have hq1 : (q : Int) < (p.size : Int) := by omega
  have hq2 : (q : Int) ≤ (p.size : Int) := by omega
  go_enter Tryd.func24, Tryd.ntmps24
  go_wp2_with (first | (go_at_call 31; refine (at_any g s _ _ (by omega) (by exact HG.out.below (by repeat (first | exact Below.refl _ _ | apply below_alloc | apply pw_below_drewN)))).mono ?_; rintro e' w' ⟨rfl, m, rfl⟩; first | rw [HAT.out] | rw [HA.out]) | (go_at_call 34; refine (indexAny_any p _ (by omega)).mono ?_; rintro e' w1 ⟨rfl, hb1⟩; rw [HQ.out]; have HBX := Lib.hid (below_step (by repeat (first | exact Below.refl _ _ | apply below_alloc | apply pw_below_drewN) : Below w.heap.size w _) hb1); have hblk := blk_below (g := w.heap.size) (o := (.cells #[.int .i64 0, .int .i64 0, .int .i64 0, .string (⟨#[]⟩ : ByteArray)] 30 (0, 0))) (by (repeat (first | exact blk_new _ _ | refine blk_drewN ?_ _ | refine blk_alloc ?_ _))) hb1; have hz0 := (blk_cell hblk 0).trans rfl; have hz1 := (blk_cell hblk 1).trans rfl; have hz2 := (blk_cell hblk 2).trans rfl; have hz3 := (blk_cell hblk 3).trans rfl; have hf0 := blk_frozen hblk 0; have hf1 := blk_frozen hblk 1; have hf2 := blk_frozen hblk 2; have hf3 := blk_frozen hblk 3; have hg0 := (HG.out.below HBX.out).1; clear hb1 hblk))
  refine bodyPost_ret (v := .tuple #[.agg #[.int .i64 0, .int .i64 0, .int .i64 0, .string ⟨#[]⟩], .int .i64 0, .int .i64 6]) (by simp [results, Tryd.results24, go_sem, hz0, hz1, hz2, hz3]) rfl ⟨rfl, by have HBZ := HBX.out; exact (by repeat (first | exact Below.refl _ _ | exact HBZ | apply below_alloc | apply pw_below_drewN | refine below_set ?_ (Nat.le_refl _)))⟩

set_option maxHeartbeats 4000000 in
set_option maxRecDepth 1000000 in
theorem next_str_long (g : Nat) (s : ByteArray) (i : Nat) (w : World) (x : UInt8) (hs : s.size ≤ 1000000) (hg : Scan w g s) (hi : i < s.size) (hx : s[i]'hi = x) (hc : (cls x : Int) = 6) (p : ByteArray) (hp : s.extract (i + 1) s.size = p) (q : Nat) (hq : Lib.indexAny p.data.toList [34, 10] = q) (hql : q < p.size) (y : UInt8) (hy : p[q]'hql = y) (hyt : ((y.toNat : Int) == 10) = false) (hl : 400 < q) :
    Calls Tryd.prog 24 #[.pointer (some ⟨g, 0, none⟩), .int .i64 i] w fun e' w' => e' = .returned (.tuple #[.agg #[.int .i64 0, .int .i64 0, .int .i64 0, .string ⟨#[]⟩], .int .i64 0, .int .i64 2]) ∧ Below w.heap.size w w' := by
  have HG := Lib.hid hg
  have h0 := hg.1
  have hb : g < w.heap.size := World.block_lt_of_cell? w _ hg.1
  have HAT : Hid ((atN s i : Int) = 6) := Lib.hid (by unfold atN; rw [dif_pos hi, hx]; exact hc)
  have hi1 : (i : Int) + 1 ≤ (s.size : Int) := by omega
  clear hg hx hc
  have hfr := cut_from s ((i : Int) + 1) (i + 1) (by omega) (by omega)
  rw [hp] at hfr
  have hps : p.size ≤ 1000000 := by rw [← hp, ByteArray.size_extract]; omega
  have HQ := Lib.hid hq
  clear hq hp
  have hd : decide ((q : Int) < 0) = false := decide_eq_false (by omega)
  have hq0 : (0 : Int) ≤ (q : Int) := by omega
  have hq1 : (q : Int) < (p.size : Int) := by omega
  have hq2 : (q : Int) ≤ (p.size : Int) := by omega
  have hdl : decide ((400 : Int) < (q : Int)) = true := decide_eq_true (by omega)
  go_enter Tryd.func24, Tryd.ntmps24
  go_wp2_with (first | (go_at_call 31; refine (at_any g s _ _ (by omega) (by exact HG.out.below (by repeat (first | exact Below.refl _ _ | apply below_alloc | apply pw_below_drewN)))).mono ?_; rintro e' w' ⟨rfl, m, rfl⟩; first | rw [HAT.out] | rw [HA.out]) | (go_at_call 34; refine (indexAny_any p _ (by omega)).mono ?_; rintro e' w1 ⟨rfl, hb1⟩; rw [HQ.out]; have HBX := Lib.hid (below_step (by repeat (first | exact Below.refl _ _ | apply below_alloc | apply pw_below_drewN) : Below w.heap.size w _) hb1); have hblk := blk_below (g := w.heap.size) (o := (.cells #[.int .i64 0, .int .i64 0, .int .i64 0, .string (⟨#[]⟩ : ByteArray)] 30 (0, 0))) (by (repeat (first | exact blk_new _ _ | refine blk_drewN ?_ _ | refine blk_alloc ?_ _))) hb1; have hz0 := (blk_cell hblk 0).trans rfl; have hz1 := (blk_cell hblk 1).trans rfl; have hz2 := (blk_cell hblk 2).trans rfl; have hz3 := (blk_cell hblk 3).trans rfl; have hf0 := blk_frozen hblk 0; have hf1 := blk_frozen hblk 1; have hf2 := blk_frozen hblk 2; have hf3 := blk_frozen hblk 3; have hg0 := (HG.out.below HBX.out).1; clear hb1 hblk))
  refine bodyPost_ret (v := .tuple #[.agg #[.int .i64 0, .int .i64 0, .int .i64 0, .string ⟨#[]⟩], .int .i64 0, .int .i64 2]) (by simp [results, Tryd.results24, go_sem, hz0, hz1, hz2, hz3]) rfl ⟨rfl, by have HBZ := HBX.out; exact (by repeat (first | exact Below.refl _ _ | exact HBZ | apply below_alloc | apply pw_below_drewN | refine below_set ?_ (Nat.le_refl _)))⟩

set_option maxHeartbeats 4000000 in
set_option maxRecDepth 1000000 in
theorem next_str (g : Nat) (s : ByteArray) (i : Nat) (w : World) (x : UInt8) (hs : s.size ≤ 1000000) (hg : Scan w g s) (hi : i < s.size) (hx : s[i]'hi = x) (hc : (cls x : Int) = 6) (p : ByteArray) (hp : s.extract (i + 1) s.size = p) (q : Nat) (hq : Lib.indexAny p.data.toList [34, 10] = q) (hql : q < p.size) (y : UInt8) (hy : p[q]'hql = y) (hyt : ((y.toNat : Int) == 10) = false) (hl : q ≤ 400) :
    Calls Tryd.prog 24 #[.pointer (some ⟨g, 0, none⟩), .int .i64 i] w fun e' w' => e' = .returned (.tuple #[.agg #[.int .i64 3, .int .i64 i, .int .i64 0, .string (p.extract 0 q)], .int .i64 ((i : Int) + (q : Int) + 2), .int .i64 0]) ∧ Below w.heap.size w w' := by
  have HG := Lib.hid hg
  have h0 := hg.1
  have hb : g < w.heap.size := World.block_lt_of_cell? w _ hg.1
  have HAT : Hid ((atN s i : Int) = 6) := Lib.hid (by unfold atN; rw [dif_pos hi, hx]; exact hc)
  have hi1 : (i : Int) + 1 ≤ (s.size : Int) := by omega
  clear hg hx hc
  have hfr := cut_from s ((i : Int) + 1) (i + 1) (by omega) (by omega)
  rw [hp] at hfr
  have hps : p.size ≤ 1000000 := by rw [← hp, ByteArray.size_extract]; omega
  have HQ := Lib.hid hq
  clear hq hp
  have hd : decide ((q : Int) < 0) = false := decide_eq_false (by omega)
  have hq0 : (0 : Int) ≤ (q : Int) := by omega
  have hq1 : (q : Int) < (p.size : Int) := by omega
  have hq2 : (q : Int) ≤ (p.size : Int) := by omega
  have hdl : decide ((400 : Int) < (q : Int)) = false := decide_eq_false (by omega)
  have hct := cut_to p q (by omega)
  go_enter Tryd.func24, Tryd.ntmps24
  go_wp2_with (first | (go_at_call 31; refine (at_any g s _ _ (by omega) (by exact HG.out.below (by repeat (first | exact Below.refl _ _ | apply below_alloc | apply pw_below_drewN)))).mono ?_; rintro e' w' ⟨rfl, m, rfl⟩; first | rw [HAT.out] | rw [HA.out]) | (go_at_call 34; refine (indexAny_any p _ (by omega)).mono ?_; rintro e' w1 ⟨rfl, hb1⟩; rw [HQ.out]; have HBX := Lib.hid (below_step (by repeat (first | exact Below.refl _ _ | apply below_alloc | apply pw_below_drewN) : Below w.heap.size w _) hb1); have hblk := blk_below (g := w.heap.size) (o := (.cells #[.int .i64 0, .int .i64 0, .int .i64 0, .string (⟨#[]⟩ : ByteArray)] 30 (0, 0))) (by (repeat (first | exact blk_new _ _ | refine blk_drewN ?_ _ | refine blk_alloc ?_ _))) hb1; have hz0 := (blk_cell hblk 0).trans rfl; have hz1 := (blk_cell hblk 1).trans rfl; have hz2 := (blk_cell hblk 2).trans rfl; have hz3 := (blk_cell hblk 3).trans rfl; have hf0 := blk_frozen hblk 0; have hf1 := blk_frozen hblk 1; have hf2 := blk_frozen hblk 2; have hf3 := blk_frozen hblk 3; have hg0 := (HG.out.below HBX.out).1; clear hb1 hblk))
  refine bodyPost_ret (v := .tuple #[.agg #[.int .i64 3, .int .i64 i, .int .i64 0, .string (p.extract 0 q)], .int .i64 ((i : Int) + (q : Int) + 2), .int .i64 0]) (by simp [results, Tryd.results24, go_sem, hz0, hz1, hz2, hz3]) rfl ⟨rfl, by have HBZ := HBX.out; exact (by repeat (first | exact Below.refl _ _ | exact HBZ | apply below_alloc | apply pw_below_drewN | refine below_set ?_ (Nat.le_refl _)))⟩

end Go.Proofs.YtalgccjkfanaoaaDoor.LxW
