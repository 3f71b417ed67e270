/- The law's fixed examples: they are as they are said to be. -/
import Derived.Test.YtalgccjkfanaoaaDoorLexC
namespace Go.Proofs.YtalgccjkfanaoaaDoor.LxW
open Go.RowKit Go.Proofs.YtalgccjkfanaoaaDoorW.PrintWords Go.Proofs.YtalgccjkfanaoaaDoorW.PrintLast Go.Proofs.YtalgccjkfanaoaaDoorW.PrintMore
open Go.Proofs.YtalgccjkfanaoaaDoor Go.Proofs.YtalgccjkfanaoaaDoor.LxP
set_option linter.unusedVariables false
set_option linter.unusedSimpArgs false

def toks1 : List PL.S30 := [⟨1, 0, 0, (⟨#[114, 111, 119]⟩ : ByteArray)⟩, ⟨1, 4, 0, (⟨#[97, 49]⟩ : ByteArray)⟩, ⟨1, 7, 0, (⟨#[97, 116]⟩ : ByteArray)⟩, ⟨2, 10, 7, (⟨#[55]⟩ : ByteArray)⟩, ⟨4, 11, 0, (⟨#[62, 61]⟩ : ByteArray)⟩, ⟨1, 13, 0, (⟨#[120]⟩ : ByteArray)⟩]
theorem ex1 (w : World) : Calls Tryd.prog 12 #[.string (⟨#[114, 111, 119, 32, 97, 49, 32, 97, 116, 32, 55, 62, 61, 120, 35, 32, 121]⟩ : ByteArray)] w fun e w' => ∃ v : Value, e = .returned (.tuple #[v, .int .i64 0, .int .i64 0]) ∧ Kd.R PL.k30 30 w' w.heap.size (fun _ => True) v toks1 ∧ Below w.heap.size w w' := by
  have h : lexT (⟨#[114, 111, 119, 32, 97, 49, 32, 97, 116, 32, 55, 62, 61, 120, 35, 32, 121]⟩ : ByteArray) = (toks1, 0, 0) := by kernel_rfl
  refine (lex_any _ w).mono fun e w' h' => ?_
  rw [h] at h'
  exact h'
def toks2 : List PL.S30 := []
theorem ex2 (w : World) : Calls Tryd.prog 12 #[.string (⟨#[97, 32, 33, 98]⟩ : ByteArray)] w fun e w' => ∃ v : Value, e = .returned (.tuple #[v, .int .i64 3, .int .i64 2]) ∧ Kd.R PL.k30 30 w' w.heap.size (fun _ => True) v toks2 ∧ Below w.heap.size w w' := by
  have h : lexT (⟨#[97, 32, 33, 98]⟩ : ByteArray) = (toks2, 3, 2) := by kernel_rfl
  refine (lex_any _ w).mono fun e w' h' => ?_
  rw [h] at h'
  exact h'
def toks3 : List PL.S30 := []
theorem ex3 (w : World) : Calls Tryd.prog 12 #[.string (⟨#[55, 120]⟩ : ByteArray)] w fun e w' => ∃ v : Value, e = .returned (.tuple #[v, .int .i64 4, .int .i64 0]) ∧ Kd.R PL.k30 30 w' w.heap.size (fun _ => True) v toks3 ∧ Below w.heap.size w w' := by
  have h : lexT (⟨#[55, 120]⟩ : ByteArray) = (toks3, 4, 0) := by kernel_rfl
  refine (lex_any _ w).mono fun e w' h' => ?_
  rw [h] at h'
  exact h'
def toks4 : List PL.S30 := []
theorem ex4 (w : World) : Calls Tryd.prog 12 #[.string (⟨#[49, 50, 51, 52, 53, 54, 55, 56, 57, 48, 49, 50, 51, 52]⟩ : ByteArray)] w fun e w' => ∃ v : Value, e = .returned (.tuple #[v, .int .i64 4, .int .i64 0]) ∧ Kd.R PL.k30 30 w' w.heap.size (fun _ => True) v toks4 ∧ Below w.heap.size w w' := by
  have h : lexT (⟨#[49, 50, 51, 52, 53, 54, 55, 56, 57, 48, 49, 50, 51, 52]⟩ : ByteArray) = (toks4, 4, 0) := by kernel_rfl
  refine (lex_any _ w).mono fun e w' h' => ?_
  rw [h] at h'
  exact h'
def toks5 : List PL.S30 := []
theorem ex5 (w : World) : Calls Tryd.prog 12 #[.string (⟨#[10, 97, 98, 99, 100, 101, 102, 103, 104, 105, 106, 107, 108, 109, 110, 111, 112, 113, 114, 115, 116, 117, 118, 119, 120, 121]⟩ : ByteArray)] w fun e w' => ∃ v : Value, e = .returned (.tuple #[v, .int .i64 2, .int .i64 1]) ∧ Kd.R PL.k30 30 w' w.heap.size (fun _ => True) v toks5 ∧ Below w.heap.size w w' := by
  have h : lexT (⟨#[10, 97, 98, 99, 100, 101, 102, 103, 104, 105, 106, 107, 108, 109, 110, 111, 112, 113, 114, 115, 116, 117, 118, 119, 120, 121]⟩ : ByteArray) = (toks5, 2, 1) := by kernel_rfl
  refine (lex_any _ w).mono fun e w' h' => ?_
  rw [h] at h'
  exact h'
def toks6 : List PL.S30 := [⟨1, 0, 0, (⟨#[116, 111]⟩ : ByteArray)⟩, ⟨3, 3, 0, (⟨#[]⟩ : ByteArray)⟩, ⟨3, 6, 0, (⟨#[97, 32, 98]⟩ : ByteArray)⟩, ⟨4, 11, 0, (⟨#[59]⟩ : ByteArray)⟩]
theorem ex6 (w : World) : Calls Tryd.prog 12 #[.string (⟨#[116, 111, 32, 34, 34, 32, 34, 97, 32, 98, 34, 59]⟩ : ByteArray)] w fun e w' => ∃ v : Value, e = .returned (.tuple #[v, .int .i64 0, .int .i64 0]) ∧ Kd.R PL.k30 30 w' w.heap.size (fun _ => True) v toks6 ∧ Below w.heap.size w w' := by
  have h : lexT (⟨#[116, 111, 32, 34, 34, 32, 34, 97, 32, 98, 34, 59]⟩ : ByteArray) = (toks6, 0, 0) := by kernel_rfl
  refine (lex_any _ w).mono fun e w' h' => ?_
  rw [h] at h'
  exact h'
def toks7 : List PL.S30 := []
theorem ex7 (w : World) : Calls Tryd.prog 12 #[.string (⟨#[97, 32, 34, 98]⟩ : ByteArray)] w fun e w' => ∃ v : Value, e = .returned (.tuple #[v, .int .i64 6, .int .i64 2]) ∧ Kd.R PL.k30 30 w' w.heap.size (fun _ => True) v toks7 ∧ Below w.heap.size w w' := by
  have h : lexT (⟨#[97, 32, 34, 98]⟩ : ByteArray) = (toks7, 6, 2) := by kernel_rfl
  refine (lex_any _ w).mono fun e w' h' => ?_
  rw [h] at h'
  exact h'
theorem slot_cells {W : World} {base g n cap : Nat} {xs : List PL.S30} (h : Kd.R PL.k30 30 W base (fun _ => True) (.slice (some ⟨g, 0, none⟩) n cap) xs) (i : Nat) (x : PL.S30) (hi : i < n) (hx : xs.getD i PL.z30 = x) :
    W.cell? ⟨g, i * 4, none⟩ = some (.int .i64 x.f0) ∧ W.cell? ⟨g, i * 4 + 1, none⟩ = some (.int .i64 x.f1) ∧ W.cell? ⟨g, i * 4 + 2, none⟩ = some (.int .i64 x.f2) ∧ W.cell? ⟨g, i * 4 + 3, none⟩ = some (.string x.f3) := by
  have h1 := Kd.R_elem h PL.z30 (i : Int) (by omega) (by omega)
  rw [Int.toNat_natCast, hx] at h1
  obtain ⟨c, _, hm, hc, _⟩ := h1
  have e := PL.k30_openM hm
  subst e
  exact ⟨hc 0 _ rfl, hc 1 _ rfl, hc 2 _ rfl, hc 3 _ rfl⟩

set_option maxHeartbeats 4000000 in
set_option maxRecDepth 1000000 in
theorem head_any (w : World) : Calls Tryd.prog 11 #[] w fun e w' => e = .returned (.bool true) ∧ Below w.heap.size w w' := by
  go_enter Tryd.func11, Tryd.ntmps11
  go_wp2_with fail
  refine (ex1 _).mono ?_
  rintro e w1 ⟨v1, rfl, HR1, hb1⟩
  have HB1 := Lib.hid hb1
  clear hb1
  go_wp2_with fail
  refine (ex2 _).mono ?_
  rintro e w2 ⟨v2, rfl, HR2, hb2⟩
  have HB2 := Lib.hid hb2
  clear hb2
  go_wp2_with fail
  refine (ex3 _).mono ?_
  rintro e w3 ⟨v3, rfl, HR3, hb3⟩
  have HB3 := Lib.hid hb3
  clear hb3
  go_wp2_with fail
  refine (ex4 _).mono ?_
  rintro e w4 ⟨v4, rfl, HR4, hb4⟩
  have HB4 := Lib.hid hb4
  clear hb4
  go_wp2_with fail
  refine (ex5 _).mono ?_
  rintro e w5 ⟨v5, rfl, HR5, hb5⟩
  have HB5 := Lib.hid hb5
  clear hb5
  go_wp2_with fail
  refine (ex6 _).mono ?_
  rintro e w6 ⟨v6, rfl, HR6, hb6⟩
  have HB6 := Lib.hid hb6
  clear hb6
  go_wp2_with fail
  refine (ex7 _).mono ?_
  rintro e w7 ⟨v7, rfl, HR7, hb7⟩
  have HB7 := Lib.hid hb7
  clear hb7
  have Q1 := Lib.hid (Kd.R_below (Kd.R_below (Kd.R_below (Kd.R_below (Kd.R_below (Kd.R_below (HR1) HB2.out) HB3.out) HB4.out) HB5.out) HB6.out) HB7.out)
  have Q6 := Lib.hid (Kd.R_below HR6 HB7.out)
  clear HR1 HR2 HR3 HR4 HR5 HR6 HR7
  have HBA := Lib.hid (below_step (below_step (below_step (below_step (below_step (below_step (HB1.out) HB2.out) HB3.out) HB4.out) HB5.out) HB6.out) HB7.out)
  clear HB1 HB2 HB3 HB4 HB5 HB6 HB7
  obtain ⟨g1, cap1, hv1, _, _, _⟩ := Kd.R_form Q1.out (by decide)
  obtain ⟨g6, cap6, hv6, _, _, _⟩ := Kd.R_form Q6.out (by decide)
  subst hv1 hv6
  obtain ⟨cg110, cg111, cg112, cg113⟩ := slot_cells Q1.out 1 ⟨1, 4, 0, (⟨#[97, 49]⟩ : ByteArray)⟩ (by decide) rfl
  obtain ⟨cg130, cg131, cg132, cg133⟩ := slot_cells Q1.out 3 ⟨2, 10, 7, (⟨#[55]⟩ : ByteArray)⟩ (by decide) rfl
  obtain ⟨cg140, cg141, cg142, cg143⟩ := slot_cells Q1.out 4 ⟨4, 11, 0, (⟨#[62, 61]⟩ : ByteArray)⟩ (by decide) rfl
  obtain ⟨cg150, cg151, cg152, cg153⟩ := slot_cells Q1.out 5 ⟨1, 13, 0, (⟨#[120]⟩ : ByteArray)⟩ (by decide) rfl
  obtain ⟨cg610, cg611, cg612, cg613⟩ := slot_cells Q6.out 1 ⟨3, 3, 0, (⟨#[]⟩ : ByteArray)⟩ (by decide) rfl
  obtain ⟨cg620, cg621, cg622, cg623⟩ := slot_cells Q6.out 2 ⟨3, 6, 0, (⟨#[97, 32, 98]⟩ : ByteArray)⟩ (by decide) rfl
  obtain ⟨cg630, cg631, cg632, cg633⟩ := slot_cells Q6.out 3 ⟨4, 11, 0, (⟨#[59]⟩ : ByteArray)⟩ (by decide) rfl
  simp only [Nat.reduceMul, Nat.reduceAdd] at *
  have hl1 : toks1.length = 6 := rfl
  have hl6 : toks6.length = 4 := rfl
  go_wp2_with fail
  go_ret
  exact ⟨rfl, HBA.out⟩
end Go.Proofs.YtalgccjkfanaoaaDoor.LxW
namespace Go.Proofs.YtalgccjkfanaoaaDoor.PL
open Go.RowKit
/-- The fixed examples. -/
def customhouselaw07_head.f : Option Bool := some true
theorem customhouselaw07_head.calls (r : Bool) (w : World) (h : customhouselaw07_head.f = some r) :
    Calls Tryd.prog 11 #[] w fun e w' => e = .returned (.bool r) ∧ Below w.heap.size w w' := by
  obtain rfl : true = r := Option.some.inj h
  exact LxW.head_any w
end Go.Proofs.YtalgccjkfanaoaaDoor.PL
