/- fact.Index: the index of the first fact with a name, -1 if there is none. -/
import Derived.Test.YtgddmfphlhlcjaaDoorPF0
import Derived.Lib.Hide
namespace Go.Proofs.YtgddmfphlhlcjaaDoor.FcW
open Go.RowKit Go.Proofs.YtgddmfphlhlcjaaDoorW.PrintWords Go.Proofs.YtgddmfphlhlcjaaDoorW.PrintLast Go.Proofs.YtgddmfphlhlcjaaDoorW.PrintMore
open Go.Proofs.YtgddmfphlhlcjaaDoor Go.Proofs.YtgddmfphlhlcjaaDoor.PF
set_option linter.unusedVariables false
set_option linter.unusedSimpArgs false

/-- From place i on: the first fact with the name. -/
def idxFrom (n : ByteArray) : Nat → List S42 → Int
  | _, [] => -1
  | i, f :: r => if f.f0.toList == n.toList then (i : Int) else idxFrom n (i + 1) r

theorem ret_int {x y : Int} (h : x = y) : Ending.returned (Value.int .i64 x) = .returned (.int .i64 y) := by rw [h]
theorem rd_drop (l : List S42) (j : Nat) (h : j < l.length) : l.drop j = rd_T42 l j :: l.drop (j + 1) := by
  rw [List.drop_eq_getElem_cons h]
  congr 1
  unfold rd_T42
  rw [Int.toNat_natCast, List.getD_eq_getElem?_getD, List.getElem?_eq_getElem h]
  rfl

set_option maxHeartbeats 4000000 in
set_option maxRecDepth 100000 in
/-- The closure: does the fact bear the name? -/
theorem named_any (b : Nat) (n : ByteArray) (x : S42) (v : Bool) (w : World) (hb : w.cell? ⟨b, 0, none⟩ = some (.string n)) (hv : (x.f0.toList == n.toList) = v) :
    Calls Tryd.prog 47 #[.agg #[.string x.f0, .int .i64 x.f1, .int .i64 x.f2, .int .i64 x.f3], .pointer (some ⟨b, 0, none⟩)] w fun e w' => e = .returned (.bool v) ∧ Below w.heap.size w w' := by
  have hlt := World.block_lt_of_cell? w _ hb
  have hne : b ≠ w.heap.size := Nat.ne_of_lt hlt
  subst hv
  go_enter Tryd.func47, Tryd.ntmps47
  go_wp2
  go_ret
  exact ⟨rfl, below_alloc (Below.refl _ _) _⟩

set_option maxHeartbeats 4000000 in
set_option maxRecDepth 100000 in
theorem indexFunc_any (A : Option Addr) (c : Nat) (l0 : List S42) (b : Nat) (n : ByteArray) (w : World) (hr : Kd.C k42 w A l0.length l0) (hl : l0.length ≤ 9223372036854775806) (hb : w.cell? ⟨b, 0, none⟩ = some (.string n)) :
    Calls Tryd.prog 46 #[.slice A l0.length c, .func (.func 47) #[] #[.pointer (some ⟨b, 0, none⟩)]] w fun e w' => e = .returned (.int .i64 (idxFrom n 0 l0)) ∧ Below w.heap.size w w' := by
  have HR := Aside0.mk hr
  have HN := Aside0.mk hb
  have hlt := World.block_lt_of_cell? w _ hb
  clear hr hb
  go_enter Tryd.func46, Tryd.ntmps46
  go_wp2
  go_loopw [8] (fun v wr => ∃ (j : Nat), j ≤ l0.length ∧ v = .int .i64 j ∧ Aside0 (Below w.heap.size w wr) ∧ Aside0 (idxFrom n j (l0.drop j) = idxFrom n 0 l0)) (fun v _ => l0.length - (intOf v).toNat)
  case atStart => exact ⟨0, Nat.zero_le _, rfl, ⟨Below.refl _ _⟩, ⟨rfl⟩⟩
  case round =>
    obtain ⟨j, hj, rfl, HB, HE⟩ := hrel
    by_cases hjl : j < l0.length
    · have hd : decide ((j : Int) < (l0.length : Int)) = true := decide_eq_true (by omega)
      have hd2 : decide (j < l0.length) = true := decide_eq_true hjl
      obtain ⟨ad, e0, hx0, hx1, hx2, hx3⟩ := at_T42 HR.out (j : Int) (by omega) (by omega)
      cases e0
      replace hx0 := (HB.out.cell (World.block_lt_of_cell? w _ hx0)).trans hx0
      replace hx1 := (HB.out.cell (World.block_lt_of_cell? w _ hx1)).trans hx1
      replace hx2 := (HB.out.cell (World.block_lt_of_cell? w _ hx2)).trans hx2
      replace hx3 := (HB.out.cell (World.block_lt_of_cell? w _ hx3)).trans hx3
      simp only [Int.toNat_natCast] at hx0 hx1 hx2 hx3
      have p1 := eq_true (show (0 : Int) ≤ (j : Int) by omega)
      have q1 := eq_true (show (j : Int) < (l0.length : Int) by omega)
      obtain ⟨v, hv⟩ : ∃ v, ((rd_T42 l0 (j : Int)).f0.toList == n.toList) = v := ⟨_, rfl⟩
      have HV := Aside0.mk hv
      have hdr := rd_drop l0 j hjl
      have HD := Aside0.mk hdr
      clear hv hdr
      cases v with
      | true =>
        go_wp2_with (go_at_call 47; refine (named_any b n (rd_T42 l0 (j : Int)) true _ ((HB.out.cell hlt).trans HN.out) HV.out).mono ?_; rintro e w' ⟨rfl, hb1⟩; have HB1 := Aside0.mk hb1; clear hb1)
        go_ret
        exact ⟨ret_int (by have h1 := HE.out; rw [HD.out] at h1; simp only [idxFrom, HV.out, if_true] at h1; exact h1), below_step HB.out HB1.out⟩
      | false =>
        go_wp2_with (go_at_call 47; refine (named_any b n (rd_T42 l0 (j : Int)) false _ ((HB.out.cell hlt).trans HN.out) HV.out).mono ?_; rintro e w' ⟨rfl, hb1⟩; have HB1 := Aside0.mk hb1; clear hb1)
        go_roundw
        case rel => exact ⟨j + 1, by omega, by go_num, ⟨below_step HB.out HB1.out⟩, ⟨by have h1 := HE.out; rw [HD.out] at h1; simp only [idxFrom, HV.out] at h1; exact h1⟩⟩
        case measure => simp [intOf]; omega
    · have hd : decide ((j : Int) < (l0.length : Int)) = false := decide_eq_false (by omega)
      have hd2 : decide (j < l0.length) = false := decide_eq_false (by omega)
      go_wp2
      go_ret
      exact ⟨ret_int (by have h1 := HE.out; rw [List.drop_of_length_le (by omega)] at h1; exact h1), HB.out⟩

set_option maxHeartbeats 4000000 in
set_option maxRecDepth 100000 in
theorem index_any (A : Option Addr) (c : Nat) (l0 : List S42) (n : ByteArray) (w : World) (hr : Kd.C k42 w A l0.length l0) (hl : l0.length ≤ 9223372036854775806) :
    Calls Tryd.prog 36 #[.agg #[.slice A l0.length c], .string n] w fun e w' => e = .returned (.int .i64 (idxFrom n 0 l0)) ∧ Below w.heap.size w w' := by
  have HR := Aside0.mk hr
  clear hr
  have hmf : ∀ (fn : Fn) (first cap : Array Value) (w : World), (Instr.makeFunc fn first cap).run Tryd.prog w = .ok (.func fn first cap) w := fun _ _ _ _ => rfl
  go_enter Tryd.func36, Tryd.ntmps36
  go_wp2_with (go_at_call 46; refine (indexFunc_any A c l0 (w.heap.size + 1) n _ (Kd.C_alloc (Kd.C_alloc HR.out _) _) hl ?cl).mono ?_; (case cl => simp); rintro e w' ⟨rfl, hb1⟩; have HB1 := Aside0.mk hb1; clear hb1)
  go_ret
  exact ⟨rfl, below_step (below_alloc (below_alloc (Below.refl _ _) _) _) HB1.out⟩
end Go.Proofs.YtgddmfphlhlcjaaDoor.FcW
