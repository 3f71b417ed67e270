/- The classes of bytes: what 'classes' returns. -/
import Derived.Test.YtalgccjkfanaoaaDoorLexB
import Derived.Laws.CopyOwn
import Derived.Deep.WholeRow
namespace Go.Proofs.YtalgccjkfanaoaaDoor.LxW
open Go.RowKit Go.Proofs.YtalgccjkfanaoaaDoorW.PrintWords Go.Proofs.YtalgccjkfanaoaaDoorW.PrintLast Go.Proofs.YtalgccjkfanaoaaDoorW.PrintMore
open Go.Proofs.YtalgccjkfanaoaaDoor Go.Proofs.YtalgccjkfanaoaaDoor.LxP
set_option linter.unusedVariables false
set_option linter.unusedSimpArgs false

def rowA (f : List Int) : Array Value := (nums .i64 f).toArray
def setN (cl : Int) : List Int → List UInt8 → List Int
  | f, [] => f
  | f, c :: r => setN cl (f.set c.toNat cl) r
theorem setN_length (cl : Int) : ∀ (l : List UInt8) (f : List Int), (setN cl f l).length = f.length
  | [], f => rfl
  | c :: r, f => by rw [setN, setN_length cl r, List.length_set]
theorem rowA_get (f : List Int) (i : Nat) (h : i < f.length) : (rowA f)[i]? = some (.int .i64 (f.getD i 0)) := by
  simp [rowA, nums, List.getD_eq_getElem?_getD, List.getElem?_eq_getElem h]
theorem rowA_set (f : List Int) (i : Nat) (x : Int) : (rowA f).setIfInBounds i (.int .i64 x) = rowA (f.set i x) := by
  simp [rowA, nums, List.map_set]

set_option maxHeartbeats 1000000 in
theorem set_any (b : Nat) (s : ByteArray) (cl : Int) (f : List Int) (w : World) (hs : s.size ≤ 1000) (hf : f.length = 256) (HB : Hid (w.heap[b]? = some (.cells (rowA f) 41 (0, 0)))) :
    Calls Tryd.prog 29 #[.string s, .int .i64 cl, .pointer (some ⟨b, 0, none⟩)] w fun e w' => e = .returned (.tuple #[]) ∧ w' = w.setRow b (rowA (setN cl f s.data.toList)) := by
  have HF := Lib.hid hf
  clear hf
  go_enter Tryd.func29, Tryd.ntmps29
  go_wp2_with fail
  go_loopw [5] (fun v wr => ∃ (k : Nat) (f' : List Int), k ≤ s.size ∧ v = .int .i64 k ∧ Aside0 (f'.length = 256) ∧ Aside0 (setN cl f' (rest s k) = setN cl f s.data.toList) ∧ Aside0 (wr = w.setRow b (rowA f'))) (fun v _ => s.size - (intOf v).toNat)
  case atStart => exact ⟨0, f, by omega, rfl, ⟨HF.out⟩, ⟨rfl⟩, ⟨(setRow_self w b _ _ _ HB.out).symm⟩⟩
  case round =>
    obtain ⟨k, f', hk, rfl, HL, HE, HW⟩ := hrel
    by_cases hlt : k < s.size
    · have hx := rest_cons s k hlt
      obtain ⟨x, hxe⟩ : ∃ x : UInt8, s[k]'hlt = x := ⟨_, rfl⟩
      rw [hxe] at hx
      have HX := Lib.hid hx
      clear hx
      have hxl := x.toNat_lt
      have hx0 : (x.toNat : Int) < 256 := by omega
      have hrow : wr.heap[b]? = some (.cells (rowA f') 41 (0, 0)) := by rw [HW.out]; exact setRow_heap w b _ _ _ _ HB.out
      have hcell : wr.cell? ⟨b, x.toNat, none⟩ = some (.int .i64 (f'.getD x.toNat 0)) := by rw [blk_cell hrow, rowA_get f' x.toNat (by rw [HL.out]; omega)]
      have hfr : wr.frozen? ⟨b, x.toNat, none⟩ = false := blk_frozen hrow _
      have HROW := Lib.hid hrow
      clear hrow
      have hd : decide (k < s.size) = true := decide_eq_true hlt
      have hd2 : decide ((k : Int) < (s.size : Int)) = true := decide_eq_true (by omega)
      go_wp2_with fail
      go_roundw
      case rel =>
        refine ⟨k + 1, f'.set x.toNat cl, by omega, by go_num, ⟨by rw [List.length_set]; exact HL.out⟩, ⟨?_⟩, ⟨?_⟩⟩
        · have h1 := HE.out
          rw [HX.out] at h1
          exact h1
        · rw [setCell_eq_setRow wr b x.toNat _ _ _ _ HROW.out, rowA_set, HW.out, setRow_setRow]
      case measure => simp [intOf]; omega
    · have hd : decide (k < s.size) = false := decide_eq_false hlt
      have hd2 : decide ((k : Int) < (s.size : Int)) = false := decide_eq_false (by omega)
      go_wp2_with fail
      go_end0
      refine ⟨rfl, ?_⟩
      have h1 := HE.out
      rw [rest_nil s k hlt] at h1
      rw [HW.out, ← h1]
      rfl

theorem set_row (b : Nat) (s : ByteArray) (cl : Int) (f f0 : List Int) (w : World) (hs : s.size ≤ 1000) (hf : f.length = 256) (HB : Hid (w.heap[b]? = some (.cells (rowA f0) 41 (0, 0)))) :
    Calls Tryd.prog 29 #[.string s, .int .i64 cl, .pointer (some ⟨b, 0, none⟩)] (w.setRow b (rowA f)) fun e w' => e = .returned (.tuple #[]) ∧ w.setRow b (rowA (setN cl f s.data.toList)) = w' := by
  refine (set_any b s cl f (w.setRow b (rowA f)) hs hf (Lib.hid (setRow_heap w b _ _ _ _ HB.out))).mono ?_
  rintro e w' ⟨rfl, rfl⟩
  exact ⟨rfl, by rw [setRow_setRow]⟩

def zeroL : List Int := List.replicate 256 0
theorem zeroL_length : zeroL.length = 256 := by unfold zeroL; exact List.length_replicate
theorem rowA_size (f : List Int) (h : f.length = 256) : (rowA f).size = 256 := by simp [rowA, nums, h]
theorem rowA_one (f : List Int) : (rowA f).all (·.oneCell') = true := by simp [rowA, nums, Value.oneCell']
theorem info41 : (Tryd.prog.info? 41).map (·.size) = some 256 := by kernel_rfl
/-- The classes of all bytes. -/
def clsL : List Int := (List.range 256).map fun c => (cls (UInt8.ofNat c) : Int)
set_option maxRecDepth 100000 in
theorem clsL_length : clsL.length = 256 := by simp [clsL]
set_option maxRecDepth 100000 in
theorem clsL_eq : setN 9 (setN 8 (setN 7 (setN 6 (setN 2 (setN 1 (setN 5 (setN 4 (setN 3 zeroL
    [97, 98, 99, 100, 101, 102, 103, 104, 105, 106, 107, 108, 109, 110, 111, 112, 113, 114, 115, 116, 117, 118, 119, 120, 121, 122, 65, 66, 67, 68, 69, 70, 71, 72, 73, 74, 75, 76, 77, 78, 79, 80, 81, 82, 83, 84, 85, 86, 87, 88, 89, 90])
    [48, 49, 50, 51, 52, 53, 54, 55, 56, 57]) [95]) [32, 9, 10]) [35]) [34]) [33]) [60, 62]) [59, 44, 46, 58, 40, 41, 91, 93, 123, 125, 61, 43, 45] = clsL := by decide +kernel

set_option maxHeartbeats 4000000 in
set_option maxRecDepth 1000000 in
theorem classes_any (w : World) : Calls Tryd.prog 22 #[] w fun e w' => e = .returned (.agg (rowA clsL)) ∧ Below w.heap.size w w' := by
  have hz : ∀ w, (zeroValue 41).run Tryd.prog w = .ok (.agg (rowA zeroL)) w := fun w => by kernel_rfl
  have hmf : ∀ (fn : Fn) (first cap : Array Value) (w : World), (Instr.makeFunc fn first cap).run Tryd.prog w = .ok (.func fn first cap) w := fun _ _ _ _ => rfl
  go_enter Tryd.func22, Tryd.ntmps22
  go_wp2_with fail
  obtain ⟨b, hb⟩ : ∃ b, w.heap.size + 1 = b := ⟨_, rfl⟩
  have hb0 : w.heap.size ≠ b := by omega
  obtain ⟨W, hW⟩ : ∃ W, (w.alloc (Obj.cells (rowA zeroL) 41)).alloc (Obj.cells (rowA zeroL) 41) = W := ⟨_, rfl⟩
  have HB1 : Hid (W.heap[b]? = some (.cells (rowA zeroL) 41 (0, 0))) := Lib.hid (by rw [← hW, ← hb]; exact heap_alloc2_new w _ _)
  have HB0 : Hid (W.heap[w.heap.size]? = some (.cells (rowA zeroL) 41 (0, 0))) := Lib.hid (by rw [← hW]; exact heap_alloc2_old w _ _)
  have HBE : Hid (Below w.heap.size w W) := Lib.hid (by rw [← hW]; exact below_alloc (below_alloc (Below.refl _ _) _) _)
  have hWr : W.setRow b (rowA zeroL) = W := setRow_self W b _ _ _ HB1.out
  rw [hW, hb, ← hWr]
  clear hW
  have HWR := Lib.hid hWr
  clear hWr hz
  have HBB := Lib.hid hb
  clear hb
  go_wp2_with (first
    | (go_at_call 29; refine (set_row _ _ _ _ zeroL W (by decide) (by simp [setN_length, zeroL_length]) HB1).mono ?_; rintro e w' ⟨rfl, rfl⟩)
    | (refine wpList_load_row rfl 41 _ rfl b rfl 41 (rowA _) (0, 0) _ (setRow_heap W b _ _ _ _ HB1.out) Tryd.underlying41 rfl (by rw [rowA_size _ (by simp [setN_length, zeroL_length])]; exact info41) ?_)
    | (refine wpList_store_row rfl 41 _ _ rfl w.heap.size (rowA _) rfl rfl 41 (rowA zeroL) (by rw [setRow_other W b _ _ hb0]; exact HB0.out) (by rw [rowA_size _ (by simp [setN_length, zeroL_length])]; exact info41) (by rw [rowA_size _ zeroL_length, rowA_size _ (by simp [setN_length, zeroL_length])]) (rowA_one _) ?_))
  refine bodyPost_ret (v := .agg (rowA _)) (results_cell_row Tryd.results22 _ _ w.heap.size 41 (rowA _) (0, 0) _ rfl (setRow_heap _ _ (rowA zeroL) _ _ _ (by rw [setRow_other W b _ _ hb0]; exact HB0.out)) Tryd.underlying41 rfl (by rw [rowA_size _ (by simp [setN_length, zeroL_length])]; exact info41)) rfl ⟨?_, ?_⟩
  · rw [← clsL_eq]
  · exact below_setRow (below_setRow HBE.out (by have := HBB.out; omega) _) (Nat.le_refl _) _
end Go.Proofs.YtalgccjkfanaoaaDoor.LxW
