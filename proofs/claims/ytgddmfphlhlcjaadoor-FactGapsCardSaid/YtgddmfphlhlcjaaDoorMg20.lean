/- fact.ParseCase tells what the plain reader of cases tells, of any domain and any text.
head: the chapter's examples come out as they should.
Small contracts for the walks of the laws: what came in, in a world that has grown.
What comes in, opened: a domain (a struct that holds a slice of facts), a case (a slice of numbers); the listed table of powers of ten.
The chapter's laws in plain words: canonical texts are read back, what the readers answer fits. -/
import Derived.Test.YtgddmfphlhlcjaaDoorMg19
import Derived.Test.YtgddmfphlhlcjaaDoorMg17
import Derived.Test.YtgddmfphlhlcjaaDoorMg18
import Derived.Test.YtgddmfphlhlcjaaDoorLaid
import Derived.Deep.Slices
import Derived.Deep.Fields
import Derived.ChangeSame
import Derived.Lib.LaidTab
import Derived.Carry
namespace Go.Proofs.YtgddmfphlhlcjaaDoor.FcW
open Go.RowKit Go.Proofs.YtgddmfphlhlcjaaDoorW.PrintWords Go.Proofs.YtgddmfphlhlcjaaDoorW.PrintLast Go.Proofs.YtgddmfphlhlcjaaDoorW.PrintMore
open Go.Proofs.YtgddmfphlhlcjaaDoor Go.Proofs.YtgddmfphlhlcjaaDoor.PF Go.Proofs.YtgddmfphlhlcjaaDoor.LxP Go.Proofs.YtgddmfphlhlcjaaDoor.LxW Go.Proofs.YtgddmfphlhlcjaaDoor.FcP
set_option linter.unusedVariables false
set_option linter.unusedSimpArgs false

def outC (r : Except (Nat × Nat) (List Int)) : List Int × Int × Int := match r with
  | .error (e, a) => ([], (e : Int), (a : Int))
  | .ok c => (c, 0, 0)
/-- What ParseCase tells of a domain and a text. -/
def caseO (d : List Fc) (s : ByteArray) : List Int × Int × Int := if Valid d then (if 20000 < s.size then ([], 2, -1) else match lex s.data.toList with
  | .error (e, a) => ([], (e : Int), (a : Int))
  | .ok T => outC (parseCase d s.size T)) else ([], 1, 0)
theorem case_any (A : Option Addr) (c : Nat) (l0 : List S42) (s : ByteArray) (w : World) (hr : Kd.C k42 w A l0.length l0) (hc : l0.length ≤ c) (hs : Small l0) : Calls Tryd.prog 15 #[.agg #[.slice A l0.length c], .string s] w (CSays (caseO (l0.map toF) s) w) := by
  unfold caseO
  by_cases hv : Valid (l0.map toF)
  · have hvf : fact_Valid.f l0 = some true := by unfold fact_Valid.f; rw [if_pos hs, decide_eq_true hv]
    have h60 : l0.length ≤ 60 := by have := hv.2.2; rwa [List.length_map] at this
    rw [if_pos hv]
    by_cases h : 20000 < s.size
    · rw [if_pos h]
      exact case_unlexed A c l0 s w hr hc hvf 2 (-1) (by unfold lexT; rw [if_pos h]) (by decide)
    · rw [if_neg h]
      have hl : s.data.toList.length = s.size := byts_length s
      rcases lexN_view (s.data.toList.length + 1) 0 0 s.data.toList (by omega) (by omega) with ⟨T, h1, h2, h3⟩ | ⟨e, a, j, h1, h2, h3⟩ | ⟨a, h1, h3⟩
      · have hx : lex s.data.toList = .ok T := h3
        rw [hx]
        refine case_lexed A c l0 s w hr hc hvf T (l0.map toF) (outC (parseCase (l0.map toF) s.size T)) (by unfold lexT; rw [if_neg h, hx]) (fun p hp => ?_) (by omega) h60 rfl hv.2.1 hs.2 (fun e a he => by rw [he]; rfl) (fun d hd => by rw [hd]; rfl)
        have := lexAt_texts h1 p hp
        omega
      · have hx : lex s.data.toList = .error (e, a) := h3
        rw [hx]
        have := lexErr_two h1
        exact case_unlexed A c l0 s w hr hc hvf e a (by unfold lexT; rw [if_neg h, hx]) (by rw [bne_iff_ne]; omega)
      · have hx : lex s.data.toList = .error (2, a) := h3
        rw [hx]
        exact case_unlexed A c l0 s w hr hc hvf 2 a (by unfold lexT; rw [if_neg h, hx]; rfl) (by decide)
  · rw [if_neg hv]
    exact case_invalid A c l0 s w hr hc (by unfold fact_Valid.f; rw [if_pos hs, decide_eq_false hv])
end Go.Proofs.YtgddmfphlhlcjaaDoor.FcW
namespace Go.Proofs.YtgddmfphlhlcjaaDoor.FcW
open Go.RowKit Go.Proofs.YtgddmfphlhlcjaaDoorW.PrintWords Go.Proofs.YtgddmfphlhlcjaaDoorW.PrintLast Go.Proofs.YtgddmfphlhlcjaaDoorW.PrintMore
open Go.Proofs.YtgddmfphlhlcjaaDoor Go.Proofs.YtgddmfphlhlcjaaDoor.PF Go.Proofs.YtgddmfphlhlcjaaDoor.LxP Go.Proofs.YtgddmfphlhlcjaaDoor.LxW Go.Proofs.YtgddmfphlhlcjaaDoor.FcP
set_option linter.unusedVariables false
set_option linter.unusedSimpArgs false

def exD : List Fc := [⟨[97, 103, 101], 2, 0, 150⟩, ⟨[109, 101, 109, 98, 101, 114], 1, 0, 1⟩]
def exL : List S42 := exD.map ofF
theorem exL_toF : exL.map toF = exD := toF_ofF exD
theorem ex1 : parseO (⟨#[97, 103, 101, 32, 110, 117, 109, 98, 101, 114, 32, 48, 32, 116, 111, 32, 49, 53, 48, 59, 32, 109, 101, 109, 98, 101, 114, 32, 102, 108, 97, 103, 59]⟩ : ByteArray) = (exL, 0, 0) := by kernel_rfl
theorem ex2 : caseO exD (⟨#[109, 101, 109, 98, 101, 114, 32, 61, 32, 49, 44, 32, 97, 103, 101, 32, 61, 32, 51, 48]⟩ : ByteArray) = ([30, 1], 0, 0) := by decide +kernel
theorem ex3 : caseO exD (⟨#[97, 103, 101, 32, 61, 32, 49, 53, 49, 44, 32, 109, 101, 109, 98, 101, 114, 32, 61, 32, 49]⟩ : ByteArray) = ([], 10, 6) := by decide +kernel
theorem ex4 : caseO exD (⟨#[97, 103, 101, 32, 61, 32, 51, 48]⟩ : ByteArray) = ([], 11, 8) := by decide +kernel
theorem ex5 : parseO (⟨#[97, 103, 101, 32, 110, 117, 109, 98, 101, 114, 32, 53, 32, 116, 111, 32, 52, 59]⟩ : ByteArray) = ([], 10, 16) := by kernel_rfl
theorem ex6 : text exD = [97, 103, 101, 32, 110, 117, 109, 98, 101, 114, 32, 48, 32, 116, 111, 32, 49, 53, 48, 59, 10, 109, 101, 109, 98, 101, 114, 32, 102, 108, 97, 103, 59, 10] := by decide +kernel
theorem ex7 : caseText exD [30, 1] = [97, 103, 101, 32, 61, 32, 51, 48, 44, 32, 109, 101, 109, 98, 101, 114, 32, 61, 32, 49] := by decide +kernel
theorem ex8 : nextL exD [30, 1] = some [31, 0] := by decide +kernel
theorem ex9 : nextL exD [150, 1] = none := by decide +kernel
theorem exV : Valid exD := by decide +kernel
theorem exF1 : Fits exD [30, 1] := by decide +kernel
theorem exF2 : Fits exD [150, 1] := by decide +kernel
theorem exS : Small exL := ⟨by decide, by
  intro f hf
  have h : f = ofF ⟨[97, 103, 101], 2, 0, 150⟩ ∨ f = ofF ⟨[109, 101, 109, 98, 101, 114], 1, 0, 1⟩ := by
    unfold exL exD at hf
    simpa using hf
  rcases h with rfl | rfl
  · decide
  · decide⟩

/-- What lies in memory: the domain, in its variable. -/
def Ex (w : World) (b : Nat) (A : Option Addr) (c : Nat) (w' : World) : Prop := w'.heap[b]? = some (.cells #[.slice A exL.length c] 24 (0, 0)) ∧ Kd.R k42 42 w' w.heap.size (fun _ => True) (.slice A exL.length c) exL ∧ Tab w' ∧ Below w.heap.size w w'
theorem Ex.below {w : World} {b : Nat} {A : Option Addr} {c : Nat} {w1 w2 : World} (h : Ex w b A c w1) (hb : Below w1.heap.size w1 w2) : Ex w b A c w2 := ⟨blk_below h.1 hb, Kd.R_below h.2.1 hb, h.2.2.1.below hb, below_step h.2.2.2 hb⟩
theorem Ex.c {w : World} {b : Nat} {A : Option Addr} {c : Nat} {w1 : World} (h : Ex w b A c w1) : Kd.C k42 w1 A exL.length exL := (Kd.R_reads' h.2.1).2.2
theorem Ex.le {w : World} {b : Nat} {A : Option Addr} {c : Nat} {w1 : World} (h : Ex w b A c w1) : exL.length ≤ c := (Kd.R_reads' h.2.1).2.1
theorem Ex.cell {w : World} {b : Nat} {A : Option Addr} {c : Nat} {w1 : World} (h : Ex w b A c w1) : w1.cell? ⟨b, 0, none⟩ = some (.slice A exL.length c) := (blk_cell h.1 0).trans rfl
theorem case_ex {w : World} {b : Nat} {A : Option Addr} {c : Nat} {w1 : World} (h : Ex w b A c w1) (s : ByteArray) (r : List Int) (x y : Int) (hr : caseO exD s = (r, x, y)) : Calls Tryd.prog 15 #[.agg #[.slice A exL.length c], .string s] w1 fun e w' => ∃ v : Value, e = .returned (.tuple #[v, .int .i64 x, .int .i64 y]) ∧ Kd.R (Kd.int .i64) 3 w' w1.heap.size (fun _ => True) v r ∧ Below w1.heap.size w1 w' := by
  have h1 := case_any A c exL s w1 h.c h.le exS
  rw [exL_toF, hr] at h1
  exact h1
theorem parse_ex (s : ByteArray) (r : List S42) (x y : Int) (w1 : World) (hr : parseO s = (r, x, y)) : Calls Tryd.prog 12 #[.string s] w1 fun e w' => ∃ v : Value, e = .returned (.tuple #[.agg #[v], .int .i64 x, .int .i64 y]) ∧ Kd.R k42 42 w' w1.heap.size (fun _ => True) v r ∧ Below w1.heap.size w1 w' := by
  have h1 := parse_any s w1
  rw [hr] at h1
  exact h1
theorem ints_read {w : World} {base : Nat} {v : Value} {xs : List Int} (h : Kd.R (Kd.int .i64) 3 w base (fun _ => True) v xs) : ∃ A c, v = .slice A xs.length c ∧ xs.length ≤ c ∧ Kd.C (Kd.int .i64) w A xs.length xs := by
  obtain ⟨A, c, e⟩ := Kd.R_slice h
  subst e
  obtain ⟨h1, h2, h3⟩ := Kd.R_reads' h
  exact ⟨A, c, rfl, h2, h3⟩
theorem equal_R {w : World} {b1 b2 : Nat} {v1 v2 : Value} {xs ys : List Int} (h1 : Kd.R (Kd.int .i64) 3 w b1 (fun _ => True) v1 xs) (h2 : Kd.R (Kd.int .i64) 3 w b2 (fun _ => True) v2 ys) (hm : xs.length ≤ 1000000000000000000) (r : Bool) (hr : decide (xs = ys) = r) : Calls Tryd.prog 17 #[v1, v2] w fun e w' => e = .returned (.bool r) ∧ Below w.heap.size w w' := by
  obtain ⟨A1, c1, rfl, g1, g2⟩ := ints_read h1
  obtain ⟨A2, c2, rfl, g3, g4⟩ := ints_read h2
  exact equal_any A1 c1 xs A2 c2 ys w g2 g1 g4 g3 hm r hr
theorem equal_two {w : World} {b1 b2 : Nat} {v1 v2 : Value} {x y : Int} (h1 : Kd.R (Kd.int .i64) 3 w b1 (fun _ => True) v1 [x, y]) (h2 : Kd.R (Kd.int .i64) 3 w b2 (fun _ => True) v2 [x, y]) : Calls Tryd.prog 17 #[v1, v2] w fun e w' => e = .returned (.bool true) ∧ Below w.heap.size w w' :=
  equal_R h1 h2 (by show 2 ≤ 1000000000000000000; omega) true (decide_eq_true rfl)
theorem next_R {w : World} {b : Nat} {A : Option Addr} {c : Nat} {w1 : World} (h : Ex w b A c w1) {b2 : Nat} {v : Value} {a : List Int} (hv : Kd.R (Kd.int .i64) 3 w1 b2 (fun _ => True) v a) (hf : Fits exD a) (n : List Int) (r : Bool) (hn : (match nextL exD a with | some n => (n, true) | none => ([], false)) = (n, r)) : Calls Tryd.prog 20 #[.agg #[.slice A exL.length c], v] w1 fun e w' => ∃ v : Value, e = .returned (.tuple #[v, .bool r]) ∧ Kd.R (Kd.int .i64) 3 w' w1.heap.size (fun _ => True) v n ∧ Below w1.heap.size w1 w' := by
  obtain ⟨A1, c1, rfl, g1, g2⟩ := ints_read hv
  exact next_any A c exL A1 c1 a w1 h.c h.le g2 g1 exS (by rw [exL_toF]; exact hf) n r (by rw [exL_toF]; exact hn)
theorem ctext_R {w : World} {b : Nat} {A : Option Addr} {c : Nat} {w1 : World} (h : Ex w b A c w1) {b2 : Nat} {v : Value} {a : List Int} (hv : Kd.R (Kd.int .i64) 3 w1 b2 (fun _ => True) v a) (t : List UInt8) (ht : caseText exD a = t) : Calls Tryd.prog 14 #[.agg #[.slice A exL.length c], v] w1 fun e w' => e = .returned (.string (bs t)) ∧ Below w1.heap.size w1 w' := by
  obtain ⟨A1, c1, rfl, g1, g2⟩ := ints_read hv
  have h1 := ctext_any A c exL A1 c1 a w1 h.c h.le g2 exS h.2.2.1
  rw [exL_toF, ht] at h1
  exact h1
theorem text_R {w : World} {b : Nat} {A : Option Addr} {c : Nat} {w1 : World} (h : Ex w b A c w1) (t : List UInt8) (ht : text exD = t) : Calls Tryd.prog 10 #[.agg #[.slice A exL.length c]] w1 fun e w' => e = .returned (.string (bs t)) ∧ Below w1.heap.size w1 w' := by
  have h1 := text_any A c exL w1 h.c h.le h.2.2.1 exS
  rw [exL_toF, ht] at h1
  exact h1
theorem least_R {w : World} {b : Nat} {A : Option Addr} {c : Nat} {w1 : World} (h : Ex w b A c w1) : Calls Tryd.prog 18 #[.agg #[.slice A exL.length c]] w1 fun e w' => ∃ v : Value, e = .returned v ∧ Kd.R (Kd.int .i64) 3 w' w1.heap.size (fun _ => True) v [0, 0] ∧ Below w1.heap.size w1 w' := by
  have h1 := least_any A c exL w1 h.c h.le exS (by rw [exL_toF]; exact exV)
  rw [exL_toF] at h1
  exact h1
theorem lit_ints {w W : World} {b : Nat} {A : Option Addr} {c : Nat} (h : Ex w b A c W) (xs : List Int) (hx : xs.length ≤ 1000000) : Kd.R (Kd.int .i64) 3 (W.alloc (.cells (xs.map (Value.int .i64)).toArray 3)) W.heap.size (fun _ => True) (.slice (some ⟨W.heap.size, 0, none⟩) xs.length xs.length) xs := by
  refine Kd.R_of_own ?_ (fun _ _ => trivial)
  have h2 := World.ownsRow_lit (base := W.heap.size) (e := 3) (size := 1) W (xs.map (Value.int .i64)).toArray xs.length (Nat.le_refl _) (by unfold maxLen; omega) (by simp)
  simpa [encs] using h2

set_option maxHeartbeats 64000000 in
set_option maxRecDepth 100000 in
theorem head_any (w : World) (ht : Tab w) : Calls Tryd.prog 8 #[] w fun e w' => e = .returned (.bool true) ∧ Below w.heap.size w w' := by
  have HTb := Aside0.mk ht
  clear ht
  go_enter Tryd.func8, Tryd.ntmps8
  go_upto_region 2 with (first | (go_at_call 12; refine (parse_ex (⟨#[97, 103, 101, 32, 110, 117, 109, 98, 101, 114, 32, 48, 32, 116, 111, 32, 49, 53, 48, 59, 32, 109, 101, 109, 98, 101, 114, 32, 102, 108, 97, 103, 59]⟩ : ByteArray) exL 0 0 _ ex1).mono ?_; rintro e_ w1 ⟨v, rfl, hv_, hb_⟩; obtain ⟨A, c, rfl⟩ := Kd.R_slice hv_; have HV := Aside0.mk hv_; have HB := Aside0.mk hb_; clear hv_ hb_) | ((with_reducible refine gate_dst (N := 1) rfl ?_); (try (refine gate_guard (by rfl) ?_; dsimp only)); refine box_event ?hg (N := 1) ?hd (cs := #[.slice none 0 0]) (t := 24) ?hr ?_; (case hd => rfl); (case hg => rfl); (case hr => first | (go_simp; done) | (go_simp; rfl)); intro b1 hg_b1 wb hbox hb; have BK_b1 := Aside0.mk hbox; have HB_b1 := Aside0.mk hb; have GE_b1 := Aside0.mk (Nat.le_of_eq hg_b1.symm); clear hbox hb hg_b1; have zb10 := (blk_cell BK_b1.out 0).trans (show _ = some (Value.slice none 0 0) from rfl); have fb10 := blk_frozen BK_b1.out 0))
  refine at_world (F := fun w' => Ex w b1 A c w') ⟨blk_put BK_b1.out 0 _ rfl, Kd.R_set (Kd.R_below HV.out HB_b1.out) BK_b1.out (by decide) 0 _, HTb.out.below (below_step HB.out (below_set HB_b1.out GE_b1.out)), below_step HB.out (below_set HB_b1.out GE_b1.out)⟩ ?_
  clear HV HB BK_b1 HB_b1 GE_b1 zb10 fb10 HTb
  intro w2 p_
  have X := Aside0.mk p_
  clear p_
  have x0 := X.out.cell
  have hx1 : ((exL.length : Int) != 2) = false := rfl
  have hx2 : (exL.length != 2) = false := rfl
  go_upto_region 5 with (first | (go_at_call 15; refine (case_ex X.out (⟨#[109, 101, 109, 98, 101, 114, 32, 61, 32, 49, 44, 32, 97, 103, 101, 32, 61, 32, 51, 48]⟩ : ByteArray) [30, 1] 0 0 ex2).mono ?_; rintro e_ w3_ ⟨v4, rfl, hv_, hb_⟩; have V4_ := Aside0.mk hv_; have HB := Aside0.mk hb_; clear hv_ hb_))
  refine at_world (F := fun w' => Ex w b1 A c w' ∧ Kd.R (Kd.int .i64) 3 w' w2.heap.size (fun _ => True) v4 [30, 1]) ⟨X.out.below HB.out, V4_.out⟩ ?_
  clear X x0 V4_ HB hx1 hx2
  rintro w3 ⟨p_, q_⟩
  have X := Aside0.mk p_
  have V4 := Aside0.mk q_
  clear p_ q_
  have x0 := X.out.cell
  go_upto_region 6 with (first | (go_at_call 15; refine (case_ex X.out (⟨#[97, 103, 101, 32, 61, 32, 49, 53, 49, 44, 32, 109, 101, 109, 98, 101, 114, 32, 61, 32, 49]⟩ : ByteArray) [] 10 6 ex3).mono ?_; rintro e_ w4_ ⟨v7, rfl, hv_, hb_⟩; have HB := Aside0.mk hb_; clear hv_ hb_))
  refine at_world (F := fun w' => Ex w b1 A c w' ∧ Kd.R (Kd.int .i64) 3 w' w2.heap.size (fun _ => True) v4 [30, 1]) ⟨X.out.below HB.out, Kd.R_below V4.out HB.out⟩ ?_
  clear X x0 V4 HB
  rintro w4 ⟨p_, q0_⟩
  have X := Aside0.mk p_
  clear p_
  have x0 := X.out.cell
  have V4 := Aside0.mk q0_
  clear q0_
  go_upto_region 7 with (first | (go_at_call 15; refine (case_ex X.out (⟨#[97, 103, 101, 32, 61, 32, 51, 48]⟩ : ByteArray) [] 11 8 ex4).mono ?_; rintro e_ w5_ ⟨v10, rfl, hv_, hb_⟩; have HB := Aside0.mk hb_; clear hv_ hb_))
  refine at_world (F := fun w' => Ex w b1 A c w' ∧ Kd.R (Kd.int .i64) 3 w' w2.heap.size (fun _ => True) v4 [30, 1]) ⟨X.out.below HB.out, Kd.R_below V4.out HB.out⟩ ?_
  clear X x0 V4 HB
  rintro w5 ⟨p_, q0_⟩
  have X := Aside0.mk p_
  clear p_
  have x0 := X.out.cell
  have V4 := Aside0.mk q0_
  clear q0_
  go_upto_region 8 with (first | ((with_reducible refine gate_dst (N := 54) rfl ?_); (try (refine gate_guard (by rfl) ?_; dsimp only)); refine Kd.R_lit (Kd.int .i64) (w0 := w5) w5.heap.size 3 ?hg (N := 54) ?hd (xs := [30, 1]) (inner := [30, 1].map (Value.int .i64)) (ok := fun _ => True) (okp := fun _ => True) ?hr (Kd.reps_scalar [30, 1]) (fun _ hk => hk) trivial (Below.refl _ _) (Nat.le_refl _) (by simp) ?_; (case hd => rfl); (case hg => rfl); (case hr => first | (go_simp; done) | (go_simp; rfl)); intro v54 wl_ ho_ hb_ hg_ hn_; have HL54 := Aside0.mk ho_; have HBl54 := Aside0.mk hb_; clear ho_ hb_ hg_ hn_) | (go_at_call 20; refine (next_R (X.out.below HBl54.out) HL54.out exF1 [31, 0] true (by rw [ex8])).mono ?_; rintro e_ w6_ ⟨v13, rfl, hv_, hb_⟩; have V13_ := Aside0.mk hv_; have HB := Aside0.mk (below_step HBl54.out hb_); clear hv_ hb_))
  obtain ⟨n13, hn13⟩ : ∃ n13 : Nat, n13 = n13 := ⟨0, rfl⟩
  have V13 := V13_
  clear hn13 n13
  obtain ⟨g13, hg13⟩ : ∃ g, Kd.R (Kd.int .i64) 3 w6_ g (fun _ => True) v13 [31, 0] := ⟨_, V13.out⟩
  clear V13 V13_
  have V13 := Aside0.mk hg13
  clear hg13
  refine at_world (F := fun w' => Ex w b1 A c w' ∧ Kd.R (Kd.int .i64) 3 w' w2.heap.size (fun _ => True) v4 [30, 1] ∧ Kd.R (Kd.int .i64) 3 w' g13 (fun _ => True) v13 [31, 0]) ⟨X.out.below HB.out, Kd.R_below V4.out HB.out, V13.out⟩ ?_
  clear X x0 V4 V13 HB HL54 HBl54
  rintro w6 ⟨p_, q_, r_⟩
  have X := Aside0.mk p_
  have V4 := Aside0.mk q_
  have V13 := Aside0.mk r_
  clear p_ q_ r_
  have x0 := X.out.cell
  go_upto_region 9 with (first | ((with_reducible refine gate_dst (N := 60) rfl ?_); (try (refine gate_guard (by rfl) ?_; dsimp only)); refine Kd.R_lit (Kd.int .i64) (w0 := w6) w6.heap.size 3 ?hg (N := 60) ?hd (xs := [150, 1]) (inner := [150, 1].map (Value.int .i64)) (ok := fun _ => True) (okp := fun _ => True) ?hr (Kd.reps_scalar [150, 1]) (fun _ hk => hk) trivial (Below.refl _ _) (Nat.le_refl _) (by simp) ?_; (case hd => rfl); (case hg => rfl); (case hr => first | (go_simp; done) | (go_simp; rfl)); intro v60 wl_ ho_ hb_ hg_ hn_; have HL60 := Aside0.mk ho_; have HBl60 := Aside0.mk hb_; clear ho_ hb_ hg_ hn_) | (go_at_call 20; refine (next_R (X.out.below HBl60.out) HL60.out exF2 [] false (by rw [ex9])).mono ?_; rintro e_ w7_ ⟨v15, rfl, hv_, hb_⟩; have HB := Aside0.mk (below_step HBl60.out hb_); clear hv_ hb_))
  refine at_world (F := fun w' => Ex w b1 A c w' ∧ Kd.R (Kd.int .i64) 3 w' w2.heap.size (fun _ => True) v4 [30, 1] ∧ Kd.R (Kd.int .i64) 3 w' g13 (fun _ => True) v13 [31, 0]) ⟨X.out.below HB.out, Kd.R_below V4.out HB.out, Kd.R_below V13.out HB.out⟩ ?_
  clear X x0 V4 V13 HB HL60 HBl60
  rintro w7 ⟨p_, q0_, q1_⟩
  have X := Aside0.mk p_
  clear p_
  have x0 := X.out.cell
  have V4 := Aside0.mk q0_
  clear q0_
  have V13 := Aside0.mk q1_
  clear q1_
  go_upto_region 10 with (first | (go_at_call 12; refine (parse_ex (⟨#[97, 103, 101, 32, 110, 117, 109, 98, 101, 114, 32, 53, 32, 116, 111, 32, 52, 59]⟩ : ByteArray) [] 10 16 _ ex5).mono ?_; rintro e_ w8_ ⟨v17, rfl, hv_, hb_⟩; obtain ⟨A17, c17, rfl⟩ := Kd.R_slice hv_; have HB := Aside0.mk hb_; clear hv_ hb_) | ((with_reducible refine gate_dst (N := 17) rfl ?_); (try (refine gate_guard (by rfl) ?_; dsimp only)); refine box_event ?hg (N := 17) ?hd (cs := #[.slice none 0 0]) (t := 24) ?hr ?_; (case hd => rfl); (case hg => rfl); (case hr => first | (go_simp; done) | (go_simp; rfl)); intro b17 hg_b17 wb17 hbox hb; have BK_b17 := Aside0.mk hbox; have HB_b17 := Aside0.mk hb; have GE_b17 := Aside0.mk (Nat.le_of_eq hg_b17.symm); clear hbox hb hg_b17; have zb170 := (blk_cell BK_b17.out 0).trans (show _ = some (Value.slice none 0 0) from rfl); have fb170 := blk_frozen BK_b17.out 0))
  refine at_world (F := fun w' => Ex w b1 A c w' ∧ Kd.R (Kd.int .i64) 3 w' w2.heap.size (fun _ => True) v4 [30, 1] ∧ Kd.R (Kd.int .i64) 3 w' g13 (fun _ => True) v13 [31, 0]) ⟨X.out.below (below_step HB.out (below_set HB_b17.out GE_b17.out)), Kd.R_below V4.out (below_step HB.out (below_set HB_b17.out GE_b17.out)), Kd.R_below V13.out (below_step HB.out (below_set HB_b17.out GE_b17.out))⟩ ?_
  clear X x0 V4 V13 HB BK_b17 HB_b17 GE_b17 zb170 fb170
  rintro w8 ⟨p_, q0_, q1_⟩
  have X := Aside0.mk p_
  clear p_
  have x0 := X.out.cell
  have V4 := Aside0.mk q0_
  clear q0_
  have V13 := Aside0.mk q1_
  clear q1_
  go_upto_region 11 with (first | ((with_reducible refine gate_dst (N := 73) rfl ?_); (try (refine gate_guard (by rfl) ?_; dsimp only)); refine Kd.R_lit (Kd.int .i64) (w0 := w8) w8.heap.size 3 ?hg (N := 73) ?hd (xs := [30, 1]) (inner := [30, 1].map (Value.int .i64)) (ok := fun _ => True) (okp := fun _ => True) ?hr (Kd.reps_scalar [30, 1]) (fun _ hk => hk) trivial (Below.refl _ _) (Nat.le_refl _) (by simp) ?_; (case hd => rfl); (case hg => rfl); (case hr => first | (go_simp; done) | (go_simp; rfl)); intro v73 wl_ ho_ hb_ hg_ hn_; have HL73 := Aside0.mk ho_; have HBl73 := Aside0.mk hb_; clear ho_ hb_ hg_ hn_) | (go_at_call 17; (with_reducible refine (equal_two (Kd.R_below V4.out HBl73.out) HL73.out).mono ?_); rintro e_ w9_ ⟨rfl, hb_⟩; have HB := Aside0.mk (below_step HBl73.out hb_); clear hb_))
  refine at_world (F := fun w' => Ex w b1 A c w' ∧ Kd.R (Kd.int .i64) 3 w' w2.heap.size (fun _ => True) v4 [30, 1] ∧ Kd.R (Kd.int .i64) 3 w' g13 (fun _ => True) v13 [31, 0]) ⟨X.out.below HB.out, Kd.R_below V4.out HB.out, Kd.R_below V13.out HB.out⟩ ?_
  clear X x0 V4 V13 HB HL73 HBl73
  rintro w9 ⟨p_, q0_, q1_⟩
  have X := Aside0.mk p_
  clear p_
  have x0 := X.out.cell
  have V4 := Aside0.mk q0_
  clear q0_
  have V13 := Aside0.mk q1_
  clear q1_
  have ht6 := bs_toList [97, 103, 101, 32, 110, 117, 109, 98, 101, 114, 32, 48, 32, 116, 111, 32, 49, 53, 48, 59, 10, 109, 101, 109, 98, 101, 114, 32, 102, 108, 97, 103, 59, 10]
  have ht7 := bs_toList [97, 103, 101, 32, 61, 32, 51, 48, 44, 32, 109, 101, 109, 98, 101, 114, 32, 61, 32, 49]
  go_wp2_with (first
    | ((with_reducible refine gate_dst (N := 98) rfl ?_); (try (refine gate_guard (by rfl) ?_; dsimp only)); refine Kd.R_lit (Kd.int .i64) (w0 := w9) w9.heap.size 3 ?hg (N := 98) ?hd (xs := [31, 0]) (inner := [31, 0].map (Value.int .i64)) (ok := fun _ => True) (okp := fun _ => True) ?hr (Kd.reps_scalar [31, 0]) (fun _ hk => hk) trivial (Below.refl _ _) (Nat.le_refl _) (by simp) ?_; (case hd => rfl); (case hg => rfl); (case hr => first | (go_simp; done) | (go_simp; rfl)); intro v98 wl_ ho_ hb_ hg_ hn_; have HL98 := Aside0.mk ho_; have HBl98 := Aside0.mk hb_; clear ho_ hb_ hg_ hn_)
    | ((with_reducible refine gate_dst (N := 116) rfl ?_); (try (refine gate_guard (by rfl) ?_; dsimp only)); refine Kd.R_lit (Kd.int .i64) (w0 := wq) wq.heap.size 3 ?hg (N := 116) ?hd (xs := [0, 0]) (inner := [0, 0].map (Value.int .i64)) (ok := fun _ => True) (okp := fun _ => True) ?hr (Kd.reps_scalar [0, 0]) (fun _ hk => hk) trivial (Below.refl _ _) (Nat.le_refl _) (by simp) ?_; (case hd => rfl); (case hg => rfl); (case hr => first | (go_simp; done) | (go_simp; rfl)); intro v116 wl_ ho_ hb_ hg_ hn_; have HL116 := Aside0.mk ho_; have HBl116 := Aside0.mk hb_; clear ho_ hb_ hg_ hn_)
    | (go_at_call 17; (with_reducible refine (equal_two (Kd.R_below V13.out HBl98.out) HL98.out).mono ?_); rintro e_ we_ ⟨rfl, hb_⟩; have XE := Aside0.mk (X.out.below (below_step HBl98.out hb_)); have V4E := Aside0.mk (Kd.R_below V4.out (below_step HBl98.out hb_)); have xe := XE.out.cell; clear hb_)
    | (go_at_call 18; refine (least_R XE.out).mono ?_; rintro e_ wq ⟨v115, rfl, hv_, hb_⟩; have V115 := Aside0.mk hv_; have XQ := Aside0.mk (XE.out.below hb_); have V4Q := Aside0.mk (Kd.R_below V4E.out hb_); clear hv_ hb_)
    | (go_at_call 17; (with_reducible refine (equal_two (Kd.R_below V115.out HBl116.out) HL116.out).mono ?_); rintro e_ wf_ ⟨rfl, hb_⟩; have XF := Aside0.mk (XQ.out.below (below_step HBl116.out hb_)); have V4F := Aside0.mk (Kd.R_below V4Q.out (below_step HBl116.out hb_)); have xf := XF.out.cell; clear hb_)
    | (go_at_call 10; refine (text_R XF.out _ ex6).mono ?_; rintro e_ wg_ ⟨rfl, hb_⟩; have XG := Aside0.mk (XF.out.below hb_); have V4G := Aside0.mk (Kd.R_below V4F.out hb_); have xg := XG.out.cell; clear hb_)
    | (go_at_call 14; refine (ctext_R XG.out V4G.out _ ex7).mono ?_; rintro e_ wh_ ⟨rfl, hb_⟩; have XH := Aside0.mk (XG.out.below hb_); clear hb_))
  go_ret
  exact ⟨rfl, XH.out.2.2.2⟩
end Go.Proofs.YtgddmfphlhlcjaaDoor.FcW
namespace Go.Proofs.YtgddmfphlhlcjaaDoor.FcW
open Go.RowKit Go.Proofs.YtgddmfphlhlcjaaDoorW.PrintWords Go.Proofs.YtgddmfphlhlcjaaDoorW.PrintLast Go.Proofs.YtgddmfphlhlcjaaDoorW.PrintMore
open Go.Proofs.YtgddmfphlhlcjaaDoor Go.Proofs.YtgddmfphlhlcjaaDoor.PF Go.Proofs.YtgddmfphlhlcjaaDoor.LxP Go.Proofs.YtgddmfphlhlcjaaDoor.LxW Go.Proofs.YtgddmfphlhlcjaaDoor.FcP
set_option linter.unusedVariables false
set_option linter.unusedSimpArgs false

/-- The domain's variable, in a world that has grown. -/
def Bx (W : World) (b : Nat) (A : Option Addr) (n c : Nat) (w : World) : Prop := w.heap[b]? = some (.cells #[.slice A n c] 24 (0, 0)) ∧ Below W.heap.size W w
theorem Bx.below {W : World} {b : Nat} {A : Option Addr} {n c : Nat} {w w' : World} (h : Bx W b A n c w) (hb : Below w.heap.size w w') : Bx W b A n c w' := ⟨blk_below h.1 hb, below_step h.2 hb⟩
theorem Bx.wb {W : World} {b : Nat} {A : Option Addr} {n c : Nat} {w : World} (h : Bx W b A n c w) : Below W.heap.size W w := h.2
theorem Bx.cell {W : World} {b : Nat} {A : Option Addr} {n c : Nat} {w : World} (h : Bx W b A n c w) : w.cell? ⟨b, 0, none⟩ = some (.slice A n c) := (blk_cell h.1 0).trans rfl
theorem Bx.drewN {W : World} {b : Nat} {A : Option Addr} {n c : Nat} {w : World} (h : Bx W b A n c w) (k : Nat) : Bx W b A n c (w.drewN k) := ⟨blk_drewN h.1 k, pw_below_drewN h.2 k⟩
/-- What a law gets: a domain and cases. -/
def DomIn (W : World) (A : Option Addr) (c : Nat) (l : List S42) : Prop := Kd.C k42 W A l.length l ∧ l.length ≤ c
def CaseIn (W : World) (A : Option Addr) (c : Nat) (l : List Int) : Prop := Kd.C (Kd.int .i64) W A l.length l ∧ l.length ≤ c
/-- What Next answers. -/
def nextO (d : List Fc) (a : List Int) : List Int × Bool := match nextL d a with | some n => (n, true) | none => ([], false)
section
variable {W w : World} {b : Nat} {A A1 A2 : Option Addr} {c c1 c2 : Nat} {l0 : List S42} {l1 l2 : List Int}
theorem few_in (hd : DomIn W A c l0) (h1 : CaseIn W A1 c1 l1) (X : Bx W b A l0.length c w) (r : Bool) (h : (fewB l0 && decide (l1.length ≤ 70)) = r) : Calls Tryd.prog 9 #[.agg #[.slice A l0.length c], .slice A1 l1.length c1] w fun e w' => e = .returned (.bool r) ∧ Below w.heap.size w w' :=
  few_any A c l0 A1 c1 l1 w (Kd.C_below hd.1 X.2) hd.2 (Kd.C_below h1.1 X.2) h1.2 r h
theorem fits_in (hd : DomIn W A c l0) (h1 : CaseIn W A1 c1 l1) (hs : Small l0) (X : Bx W b A l0.length c w) (r : Bool) (h : decide (Fits (l0.map toF) l1) = r) : Calls Tryd.prog 16 #[.agg #[.slice A l0.length c], .slice A1 l1.length c1] w fun e w' => e = .returned (.bool r) ∧ Below w.heap.size w w' :=
  fits_any A c l0 A1 c1 l1 w (Kd.C_below hd.1 X.2) hd.2 (Kd.C_below h1.1 X.2) hs r h
theorem head_in (ht : Tab W) (hb : Below W.heap.size W w) : Calls Tryd.prog 8 #[] w fun e w' => e = .returned (.bool true) ∧ Below w.heap.size w w' := head_any w (ht.below hb)
theorem least_in (hd : DomIn W A c l0) (hs : Small l0) (hv : Valid (l0.map toF)) (X : Bx W b A l0.length c w) : Calls Tryd.prog 18 #[.agg #[.slice A l0.length c]] w fun e w' => ∃ v : Value, e = .returned v ∧ Kd.R (Kd.int .i64) 3 w' w.heap.size (fun _ => True) v ((l0.map toF).map (·.lo)) ∧ Below w.heap.size w w' :=
  least_any A c l0 w (Kd.C_below hd.1 X.2) hd.2 hs hv
theorem fits_R (hd : DomIn W A c l0) (hs : Small l0) (X : Bx W b A l0.length c w) {g : Nat} {v : Value} {a : List Int} (hv : Kd.R (Kd.int .i64) 3 w g (fun _ => True) v a) (r : Bool) (h : decide (Fits (l0.map toF) a) = r) : Calls Tryd.prog 16 #[.agg #[.slice A l0.length c], v] w fun e w' => e = .returned (.bool r) ∧ Below w.heap.size w w' := by
  obtain ⟨A1, c1, rfl, g1, g2⟩ := ints_read hv
  exact fits_any A c l0 A1 c1 a w (Kd.C_below hd.1 X.2) hd.2 g2 hs r h
theorem next_in (hd : DomIn W A c l0) (h1 : CaseIn W A1 c1 l1) (hs : Small l0) (hf : Fits (l0.map toF) l1) (X : Bx W b A l0.length c w) (n : List Int) (r : Bool) (hn : nextO (l0.map toF) l1 = (n, r)) : Calls Tryd.prog 20 #[.agg #[.slice A l0.length c], .slice A1 l1.length c1] w fun e w' => ∃ v : Value, e = .returned (.tuple #[v, .bool r]) ∧ Kd.R (Kd.int .i64) 3 w' w.heap.size (fun _ => True) v n ∧ Below w.heap.size w w' :=
  next_any A c l0 A1 c1 l1 w (Kd.C_below hd.1 X.2) hd.2 (Kd.C_below h1.1 X.2) h1.2 hs hf n r hn
theorem less_in (h1 : CaseIn W A1 c1 l1) (h2 : CaseIn W A2 c2 l2) (hb : Below W.heap.size W w) (hm : l1.length ≤ 1000000000000000000) (r : Bool) (h : less l1 l2 = r) : Calls Tryd.prog 19 #[.slice A1 l1.length c1, .slice A2 l2.length c2] w fun e w' => e = .returned (.bool r) ∧ Below w.heap.size w w' :=
  less_any A1 c1 l1 A2 c2 l2 w (Kd.C_below h1.1 hb) h1.2 (Kd.C_below h2.1 hb) h2.2 hm r h
theorem less_R (h1 : CaseIn W A1 c1 l1) (hb : Below W.heap.size W w) {g : Nat} {v : Value} {a : List Int} (hv : Kd.R (Kd.int .i64) 3 w g (fun _ => True) v a) (hm : l1.length ≤ 1000000000000000000) (r : Bool) (h : less l1 a = r) : Calls Tryd.prog 19 #[.slice A1 l1.length c1, v] w fun e w' => e = .returned (.bool r) ∧ Below w.heap.size w w' := by
  obtain ⟨A2, c2, rfl, g1, g2⟩ := ints_read hv
  exact less_any A1 c1 l1 A2 c2 a w (Kd.C_below h1.1 hb) h1.2 g2 g1 hm r h
end
end Go.Proofs.YtgddmfphlhlcjaaDoor.FcW
namespace Go.Proofs.YtgddmfphlhlcjaaDoor.FcW
open Go.RowKit Go.ChangeShapes Go.WideShapes Go.Deep Go.Proofs.YtgddmfphlhlcjaaDoorW.PrintWords Go.Proofs.YtgddmfphlhlcjaaDoorW.PrintLast Go.Proofs.YtgddmfphlhlcjaaDoorW.PrintMore
open Go.Proofs.YtgddmfphlhlcjaaDoor Go.Proofs.YtgddmfphlhlcjaaDoor.PF
set_option linter.unusedVariables false
set_option linter.unusedSimpArgs false

theorem tab_laid {W : World} (h : laidMetH Tryd.prog laid5 W) : Tab W := by
  rw [MakeChecks.laidMetH_plain _ _ _ (by kernel_rfl)] at h
  obtain ⟨ps, ⟨_, _, _, _, _, _, _, _, _, _, hr1, _⟩, _⟩ := h
  obtain ⟨_, _, _, _, _, _, _, _, _, _, hr2, _⟩ := hr1
  obtain ⟨g', t', cs, fuel, p, q, hg', ht', hvar, hd, _, _⟩ := hr2
  have e : (Rows.laid_internal_strconv_uint64pow10 : DataW Unit) = Lib.tabData .u64 Lib.pow10Tab := by kernel_rfl
  rw [e] at hd
  obtain rfl := Option.some.inj ((show Tryd.prog.globalNamed "internal/strconv.uint64pow10" = some 0 by kernel_rfl).symm.trans hg')
  obtain rfl := Option.some.inj ((show (Tryd.prog.globals[0]?).map (·.type) = some 132 by kernel_rfl).symm.trans ht')
  unfold Tab Lib.TabIs
  rw [hvar, ← Lib.cells_of_tab Tryd.underlying132 Tryd.underlying115 (by kernel_rfl) (by kernel_rfl) hd]

section
variable {H : Type} {enc : TypeId × Value → H} {w : World} {base b0 : Nat} {r : Reach} {spare : Nat → Bool} {held : Bool}
set_option maxRecDepth 100000 in
theorem open_facts {fuel : Nat} {v : Value} {x : DataW H × List MemPlace} (h : DataW.trod enc Tryd.prog w base spare held fuel 22 [v] = some x) : ∃ A c l0, v = .slice A l0.length c ∧ DomIn w A c l0 := by
  rcases open_slice Tryd.underlying22 h with h0 | ⟨a, len, cap, m, n, D, Pl, hcs, hb, hl, hm, hmm, hx, hi⟩
  · have e : v = .slice none 0 0 := by injection h0.1
    exact ⟨none, 0, [], e, ⟨rfl, by simp, fun h => absurd h (Nat.lt_irrefl 0)⟩, Nat.le_refl _⟩
  · have e : v = .slice (some a) len cap := by injection hcs
    have hlm : len ≤ m := by rw [hmm]; split <;> omega
    have hc42 : Tryd.prog.cellsOf 42 = 4 := by kernel_rfl
    rw [hc42] at hi
    have hx4 : ∀ i, ∃ x : S42, i < len → ∀ j u, [Value.string x.f0, .int .i64 x.f1, .int .i64 x.f2, .int .i64 x.f3][j]? = some u → w.cell? (a.add (i * 4 + j)) = some u := by
      intro i
      by_cases hil : i < len
      · obtain ⟨cs', hc, ht'⟩ := hi i (by omega)
        obtain ⟨ys, n', hn', hy, hlen, hyl, hf⟩ := DataW.trod_struct Tryd.underlying42 ht'
        obtain ⟨_, hcl, hat⟩ := World.cells?_some hc
        rw [hc42] at hlen
        match cs', hlen with
        | [c0, c1, c2, c3], _ =>
          match ys, hyl with
          | [y0, y1, y2, y3], _ =>
            have f0 := hf 0 _ rfl
            have f1 := hf 1 _ rfl
            have f2 := hf 2 _ rfl
            have f3 := hf 3 _ rfl
            have k9 : Tryd.prog.cellsOf 9 = 1 := by kernel_rfl
            have k3 : Tryd.prog.cellsOf 3 = 1 := by kernel_rfl
            obtain ⟨s, e0, _⟩ := DataW.trod_string (cs := [c0]) Tryd.underlying9 (by simpa [k9] using f0)
            obtain ⟨n1, e1, _⟩ := DataW.trod_int (cs := [c1]) Tryd.underlying3 (by simpa [k3] using f1)
            obtain ⟨n2, e2, _⟩ := DataW.trod_int (cs := [c2]) Tryd.underlying3 (by simpa [k3] using f2)
            obtain ⟨n3, e3, _⟩ := DataW.trod_int (cs := [c3]) Tryd.underlying3 (by simpa [k3] using f3)
            injection e0 with e0
            injection e1 with e1
            injection e2 with e2
            injection e3 with e3
            subst e0; subst e1; subst e2; subst e3
            refine ⟨⟨s, n1, n2, n3⟩, fun _ j u hj => ?_⟩
            have hjl : j < 4 := (List.getElem?_eq_some_iff.1 hj).1
            have h5 := hat j hjl
            rw [Go.Deep.add_add] at h5
            rw [h5]
            exact hj
      · exact ⟨z42, fun h => absurd h hil⟩
    refine ⟨some a, cap, (List.range len).map (fun i => Classical.choose (hx4 i)), by rw [e]; simp, ⟨rfl, ?_, fun _ => ⟨a, rfl, ?_⟩⟩, by simpa using hl⟩
    · rw [List.length_map, List.length_range]; unfold maxLen at hm; omega
    · intro j p hj
      obtain ⟨hjl, hp⟩ := List.getElem?_eq_some_iff.1 hj
      rw [List.getElem_map, List.getElem_range] at hp
      rw [List.length_map, List.length_range] at hjl
      have hs := Classical.choose_spec (hx4 j) hjl
      rw [hp] at hs
      exact ⟨_, rfl, ⟨[.string p.f0], [.int .i64 p.f1, .int .i64 p.f2, .int .i64 p.f3], rfl, rfl, [.int .i64 p.f1], [.int .i64 p.f2, .int .i64 p.f3], rfl, rfl, [.int .i64 p.f2], [.int .i64 p.f3], rfl, rfl, rfl⟩, hs⟩
set_option maxRecDepth 100000 in
theorem open_domain {v : Value} {d : DataW H} {p : List MemPlace} (hv : Value.okWide Tryd.prog w r b0 24 v) (h : DataW.Trod enc Tryd.prog w base spare held 24 v d p) : ∃ A c l0, v = .agg #[.slice A l0.length c] ∧ DomIn w A c l0 := by
  obtain ⟨cs, rfl, hsz⟩ := okWide_struct Tryd.underlying24 hv
  obtain ⟨l⟩ := cs
  have hc24 : Tryd.prog.cellsOf 24 = 1 := by kernel_rfl
  have k22 : Tryd.prog.cellsOf 22 = 1 := by kernel_rfl
  match l, hsz.trans hc24 with
  | [c0], _ =>
    obtain ⟨fuel, hf⟩ := h
    obtain ⟨xs, n, _, hx, _, hlen, hg⟩ := DataW.trod_struct Tryd.underlying24 hf
    match xs, hlen with
    | [y0], _ =>
      obtain ⟨A, c, l0, rfl, h1⟩ := open_facts (v := c0) (by have := hg 0 _ rfl; simpa [Value.cells, k22] using this)
      exact ⟨A, c, l0, rfl, h1⟩
set_option maxRecDepth 100000 in
theorem open_case {t : TypeId} (hs : Tryd.prog.underlying t = some (.slice 3)) {v : Value} {d : DataW H} {p : List MemPlace} (hv : Value.okWide Tryd.prog w r b0 t v) (h : DataW.Trod enc Tryd.prog w base spare held t v d p) : ∃ A c l1, v = .slice A l1.length c ∧ CaseIn w A c l1 := by
  obtain ⟨A, len, cap, rfl⟩ := okWide_slice hs hv
  obtain ⟨fuel, hf⟩ := h
  rcases open_ints hs Tryd.underlying3 (by kernel_rfl) hf with ⟨hcs, _⟩ | ⟨x, l, c, zs, hcs, _, hl, hm, hz, _, hcell, hwz⟩
  · simp [Value.cells] at hcs
    obtain ⟨rfl, rfl, rfl⟩ := hcs
    exact ⟨none, 0, [], rfl, ⟨rfl, by simp, fun h => absurd h (Nat.lt_irrefl 0)⟩, Nat.le_refl _⟩
  · simp [Value.cells] at hcs
    obtain ⟨rfl, rfl, rfl⟩ := hcs
    have hlz : len ≤ zs.length := by rw [hz]; split <;> omega
    refine ⟨some x, cap, zs.take len, by rw [List.length_take, Nat.min_eq_left hlz], ⟨rfl, by rw [List.length_take]; unfold maxLen at hm; omega, fun _ => ⟨x, rfl, ?_⟩⟩, by rw [List.length_take]; omega⟩
    intro j p hj
    obtain ⟨hjl, hp⟩ := List.getElem?_eq_some_iff.1 hj
    rw [List.length_take] at hjl
    refine ⟨[.int .i64 p], rfl, rfl, fun i u hu => ?_⟩
    cases i with
    | zero =>
      simp only [List.getElem?_cons_zero, Option.some.injEq] at hu
      subst hu
      have := hcell j (by omega)
      rw [List.getElem_take] at hp
      rw [List.getD_eq_getElem?_getD, List.getElem?_eq_getElem (by omega), hp] at this
      rw [show j * (Kd.int .i64).sz + 0 = j from Nat.mul_one j]
      exact this
    | succ i => simp at hu
theorem trod_lt {t : TypeId} {v : Value} {d : DataW H} {p : List MemPlace} (h : DataW.Trod enc Tryd.prog w 0 (fun _ => true) true t v d p) : ∀ x ∈ p, x.block < w.heap.size := by
  obtain ⟨m, hm⟩ := h
  exact DataW.trod_lt m _ _ _ hm
end
theorem laidOut : laidOutB Tryd.prog = true := by kernel_rfl
end Go.Proofs.YtgddmfphlhlcjaaDoor.FcW
namespace Go.Proofs.YtgddmfphlhlcjaaDoor.FcW
open Go.RowKit Go.Proofs.YtgddmfphlhlcjaaDoorW.PrintWords Go.Proofs.YtgddmfphlhlcjaaDoorW.PrintLast
open Go.Proofs.YtgddmfphlhlcjaaDoor Go.Proofs.YtgddmfphlhlcjaaDoor.PF Go.Proofs.YtgddmfphlhlcjaaDoor.LxP Go.Proofs.YtgddmfphlhlcjaaDoor.LxW Go.Proofs.YtgddmfphlhlcjaaDoor.FcP
set_option linter.unusedVariables false
set_option linter.unusedSimpArgs false

theorem lexErr_le {off : Nat} {l : List UInt8} {e a j : Nat} (h : LexErr off l e a j) : a ≤ off + l.length := by
  induction h with
  | here off g c r e hg h1 h2 he => simp
  | more off g w r t e a k hg hw h ih => simp only [List.length_append]; omega
theorem caseText_len {d : List Fc} {c : List Int} : (caseText d c).length ≤ 2520 := by
  unfold caseText
  by_cases hf : Fits d c
  · rw [if_pos hf]
    have h1 := joined_len (entries d c) (entries_len d c hf.1.1 hf.2)
    rw [entries_length d c (within_length hf.2)] at h1
    have := hf.1.2.2
    omega
  · rw [if_neg hf]; simp
theorem text_len (d : List Fc) : (text d).length ≤ 4200 := by
  unfold text
  by_cases hv : Valid d
  · rw [if_pos hv]
    have h1 := lines_len d hv.1
    have := hv.2.2
    omega
  · rw [if_neg hv]; simp
/-- A text whose tokens are known, as the reader of cases reads it. -/
theorem case_reads {d : List Fc} {c : List Int} (hv : Valid d) {s : ByteArray} {tk : List Tk} (hs : s.size ≤ 5000) (hl : LexAs (byts s) tk) (hp : ∀ (en : Nat) (ts : Ts), ts.map (·.2) = tk → parseCase d en ts = .ok c) : caseO d s = (c, 0, 0) := by
  obtain ⟨ts, h1, h2⟩ := hl 0
  have hx : lex s.data.toList = .ok ts := lex_ok h1 (by have : s.data.toList.length = s.size := byts_length s; omega)
  unfold caseO
  rw [if_pos hv, if_neg (by omega), hx]
  show outC (parseCase d s.size ts) = _
  rw [hp _ _ h2]
  rfl
theorem case_text_lex {d : List Fc} {c : List Int} (hf : Fits d c) : LexAs (caseText d c) (caseTk (pairs d c)) := by
  unfold caseText
  rw [if_pos hf, entries_eq, joined_eq]
  exact case_lex _ (pairs_good hf)
theorem case_back {d : List Fc} {c : List Int} (hf : Fits d c) : caseO d (bs (caseText d c)) = (c, 0, 0) :=
  case_reads hf.1 (by rw [bs_size]; have := caseText_len (d := d) (c := c); omega) (by rw [byts_bs (caseText d c)]; exact case_text_lex hf) (fun en ts h => parseCase_text hf en h)
theorem caseText_inj {d : List Fc} {a b : List Int} (ha : Fits d a) (hb : Fits d b) (h : caseText d a = caseText d b) : a = b := by
  have h1 := case_back ha
  rw [h, case_back hb] at h1
  exact (congrArg Prod.fst h1).symm
theorem case_order {d : List Fc} {c : List Int} (hf : Fits d c) : caseO d (bs (caseText d.reverse c.reverse)) = (c, 0, 0) :=
  case_reads hf.1 (by rw [bs_size]; have := caseText_len (d := d.reverse) (c := c.reverse); omega) (by rw [byts_bs (caseText d.reverse c.reverse)]; exact case_text_lex (fits_reverse hf)) (fun en ts h => parseCase_back hf en h)
theorem parse_back {d : List Fc} (hv : Valid d) : parseO (bs (text d)) = (d.map ofF, 0, 0) := by
  have hl : LexAs (byts (bs (text d))) (d.flatMap lineTk) := by
    rw [byts_bs (text d)]
    unfold text
    rw [if_pos hv]
    exact text_lex d hv.1
  obtain ⟨ts, h1, h2⟩ := hl 0
  have hsz : (bs (text d)).size ≤ 4200 := by rw [bs_size]; exact text_len d
  have hx : lex (bs (text d)).data.toList = .ok ts := lex_ok h1 (by have : (bs (text d)).data.toList.length = (bs (text d)).size := byts_length (bs (text d)); omega)
  unfold parseO
  rw [if_neg (by omega), hx]
  show outP (parse (bs (text d)).size ts) = _
  rw [parse_text hv h2]
  rfl
theorem text_inj {a b : List Fc} (ha : Valid a) (hb : Valid b) (h : text a = text b) : a = b := by
  have h1 := parse_back ha
  rw [h, parse_back hb] at h1
  have h2 := congrArg Prod.fst h1
  have h3 := congrArg (List.map toF) h2
  simp only [toF_ofF] at h3
  exact h3.symm
theorem text_none {d : List Fc} : text d = [] ↔ ¬ Valid d ∨ d = [] := by
  unfold text
  by_cases hv : Valid d
  · rw [if_pos hv]
    cases d with
    | nil => simp
    | cons f r =>
      have hn := (fact_cases (hv.1 f (List.mem_cons_self ..))).1
      simp only [hv, not_true, false_or, reduceCtorEq, iff_false]
      intro h
      rw [List.flatMap_cons] at h
      have h2 := List.append_eq_nil_iff.1 h
      have h3 : line f ≠ [] := by unfold line; by_cases hk : f.kind = 1 <;> simp [hk]
      exact h3 h2.1
  · rw [if_neg hv]
    simp [hv]
def CaseGood (d : List Fc) (n : Nat) (r : List Int × Int × Int) : Prop := (r.2.1 ≠ 0 ∧ r.1 = [] ∧ r.2.2 ≤ (n : Int)) ∨ (r.2.1 = 0 ∧ Fits d r.1 ∧ r.2.2 = 0)
def DomGood (n : Nat) (r : List S42 × Int × Int) : Prop := (r.2.1 ≠ 0 ∧ r.1 = [] ∧ r.2.2 ≤ (n : Int)) ∨ (r.2.1 = 0 ∧ Valid (r.1.map toF) ∧ r.2.2 = 0)
/-- What ParseCase answers of any text of at most 3000 bytes. -/
theorem caseO_ok (d : List Fc) (s : ByteArray) (hs : s.size ≤ 3000) : CaseGood d s.size (caseO d s) := by
  unfold caseO
  by_cases hv : Valid d
  · rw [if_pos hv, if_neg (by omega)]
    have hl : s.data.toList.length = s.size := byts_length s
    rcases lex_small s.data.toList (by omega) with ⟨T, h1, h2⟩ | ⟨e, a, j, h1, h2⟩
    · rw [h2]
      have hg := parseCase_ok d s.size (lexAt_good h1 s.size (by omega))
      show CaseGood d s.size (outC (parseCase d s.size T))
      cases hp : parseCase d s.size T with
      | error p =>
        obtain ⟨e, a⟩ := p
        rw [hp] at hg
        have h3 : a ≤ s.size ∧ 2 ≤ e := hg
        exact .inl ⟨by show (e : Int) ≠ 0; omega, rfl, by show (a : Int) ≤ _; omega⟩
      | ok c =>
        rw [hp] at hg
        exact .inr ⟨rfl, ⟨hv, hg⟩, rfl⟩
    · rw [h2]
      have h3 := lexErr_two h1
      have h4 := lexErr_le h1
      exact .inl ⟨by show (e : Int) ≠ 0; omega, rfl, by show (a : Int) ≤ _; omega⟩
  · rw [if_neg hv]
    exact .inl ⟨by decide, rfl, by show (0 : Int) ≤ _; omega⟩
/-- What Parse answers of any text of at most 3000 bytes. -/
theorem parseO_ok (s : ByteArray) (hs : s.size ≤ 3000) : DomGood s.size (parseO s) := by
  unfold parseO
  rw [if_neg (by omega)]
  have hl : s.data.toList.length = s.size := byts_length s
  rcases lex_small s.data.toList (by omega) with ⟨T, h1, h2⟩ | ⟨e, a, j, h1, h2⟩
  · rw [h2]
    have hg := parse_ok s.size (lexAt_good h1 s.size (by omega))
    show DomGood s.size (outP (parse s.size T))
    cases hp : parse s.size T with
    | error p =>
      obtain ⟨e, a⟩ := p
      rw [hp] at hg
      have h3 : a ≤ s.size ∧ 2 ≤ e := hg
      exact .inl ⟨by show (e : Int) ≠ 0; omega, rfl, by show (a : Int) ≤ _; omega⟩
    | ok c =>
      rw [hp] at hg
      have h3 : Valid c := hg
      exact .inr ⟨rfl, by show Valid ((c.map ofF).map toF); rw [toF_ofF]; exact h3, rfl⟩
  · rw [h2]
    have h3 := lexErr_two h1
    have h4 := lexErr_le h1
    exact .inl ⟨by show (e : Int) ≠ 0; omega, rfl, by show (a : Int) ≤ _; omega⟩
end Go.Proofs.YtgddmfphlhlcjaaDoor.FcW
