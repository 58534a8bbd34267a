/- WordFields: the walk. -/
import Derived.Test.YtpalehomjgbacaaD
import Derived.Outline
namespace Go.Proofs.Ytpalehomjgbacaa
open Go.RowKit

theorem right_b (a n : Int) (w : World) : Calls Try.prog 12 #[.agg #[.int .i64 a, .int .i64 n]] w fun e w' => e = .returned (.bool (rightB a n)) ∧ Below w.heap.size w w' :=
  (right_calls a n w).mono fun _ _ ⟨h, h'⟩ => ⟨h, h' ▸ bnew (Below.refl _ _) _⟩
theorem rright_b (a n : Int) (w : World) : Calls Try.prog 10 #[.agg #[.int .i64 a, .int .i64 n]] w fun e w' => e = .returned (.bool (rightB a n)) ∧ Below w.heap.size w w' :=
  (rright_calls a n w).mono fun _ _ ⟨h, h'⟩ => ⟨h, h' ▸ bnew (Below.refl _ _) _⟩
theorem max_b (a n : Int) (w : World) : Calls Try.prog 13 #[.agg #[.int .i64 a, .int .i64 n]] w fun e w' => e = .returned (.int .u64 (maxF a n : Nat)) ∧ Below w.heap.size w w' :=
  (max_calls a n w).mono fun _ _ ⟨h, h'⟩ => ⟨h, h' ▸ bnew (bnew (Below.refl _ _) _) _⟩

theorem keep4 {w W W' : World} {p q : Nat} {u0 u1 v0 v1 : Value}
    (h : (W.cell? ⟨p, 0, none⟩ = some u0 ∧ W.cell? ⟨p, 1, none⟩ = some u1 ∧ W.cell? ⟨q, 0, none⟩ = some v0 ∧ W.cell? ⟨q, 1, none⟩ = some v1) ∧ Hid (Below w.heap.size w W))
    (hb : Below W.heap.size W W') :
    (W'.cell? ⟨p, 0, none⟩ = some u0 ∧ W'.cell? ⟨p, 1, none⟩ = some u1 ∧ W'.cell? ⟨q, 0, none⟩ = some v0 ∧ W'.cell? ⟨q, 1, none⟩ = some v1) ∧ Hid (Below w.heap.size w W') := by
  obtain ⟨⟨a1, a2, a3, a4⟩, hB⟩ := h
  have k : ∀ {a : Addr} {u : Value}, W.cell? a = some u → W'.cell? a = some u := fun h => (hb.cell (World.block_lt_of_cell? W _ h)).trans h
  exact ⟨⟨k a1, k a2, k a3, k a4⟩, bseq hB.out hb⟩

theorem fields_right (a n : Int) (x v : Nat) (w : World) (hx : x < 18446744073709551616) (hv : v < 18446744073709551616) (hr : rightB a n = true) :
    Calls Try.prog 3 #[.agg #[.int .i64 a, .int .i64 n], .int .u64 x, .int .u64 v] w fun e w' => e = .returned (.bool true) ∧ Below w.heap.size w w' := by
  have ht : getF a n 18446744073709551615 = maxF a n := by
    obtain ⟨h1, h2, h3, h4⟩ := (right_iff a n).1 hr
    simp only [getF, maxF, hr, if_true]
    exact top_get _ _ (by omega)
  have HR := Lib.hid hr
  have HT := Lib.hid ht
  clear hr ht
  go_enter Try.func3, Try.ntmps3
  go_wp2_with fail
  refine (own_calls _ _ _).mono ?_; rintro e w1 ⟨rfl, hb⟩
  have a1 : w1.cell? ⟨w.heap.size, 0, none⟩ = some (.int .i64 a) := kcell hb (by simp)
  have a2 : w1.cell? ⟨w.heap.size, 1, none⟩ = some (.int .i64 n) := kcell hb (by simp)
  have A1 := Lib.hid a1; have A2 := Lib.hid a2; clear a1 a2
  obtain ⟨hc, hf⟩ := bcell hb
  have HB := Lib.hid hb; clear hb
  go_wp2_with fail
  refine (rright_calls _ _ _).mono ?_; rintro e w2 ⟨rfl, rfl⟩
  rw [HR.out]
  go_wp2_with fail
  refine (rget_calls _ _ 18446744073709551615 _ (by decide)).mono ?_; rintro e w2 ⟨rfl, hb2⟩
  rw [HT.out]
  have c1 : w2.cell? ⟨w.heap.size, 0, none⟩ = some (.int .i64 a) := kcell hb2 (kalloc _ (kalloc _ A1.out))
  have c2 : w2.cell? ⟨w.heap.size, 1, none⟩ = some (.int .i64 n) := kcell hb2 (kalloc _ (kalloc _ A2.out))
  have c3 : w2.cell? ⟨w1.heap.size, 0, none⟩ = some (.int .i64 a) := kcell hb2 (kalloc _ (by simp))
  have c4 : w2.cell? ⟨w1.heap.size, 1, none⟩ = some (.int .i64 n) := kcell hb2 (kalloc _ (by simp))
  have HB2 := Lib.hid hb2; clear hb2
  go_wp2_with fail
  have hB : Below w.heap.size w w2 := bseq (bnew (bnew (bseq (bnew (Below.refl _ _) _) HB.out) _) _) HB2.out
  have HW := Lib.hid hB; clear hB
  clear hc hf HB HB2 A1 A2
  go_region_held3 (fun w' => (w'.cell? ⟨w.heap.size, 0, none⟩ = some (.int .i64 a) ∧ w'.cell? ⟨w.heap.size, 1, none⟩ = some (.int .i64 n) ∧ w'.cell? ⟨w1.heap.size, 0, none⟩ = some (.int .i64 a) ∧ w'.cell? ⟨w1.heap.size, 1, none⟩ = some (.int .i64 n)) ∧ Hid (Below w.heap.size w w')) (first | exact ⟨⟨c1, c2, c3, c4⟩, HW.out.drew⟩ | exact keep4 (by assumption) (by assumption)) (first | (go_at_call 12; refine (right_b _ _ _).mono ?_; rintro e w' ⟨rfl, hb⟩) | (go_at_call 10; refine (rright_b _ _ _).mono ?_; rintro e w' ⟨rfl, hb⟩) | (go_at_call 13; refine (max_b _ _ _).mono ?_; rintro e w' ⟨rfl, hb⟩) | (go_at_call 14; refine (get_calls _ _ _ _ hx).mono ?_; rintro e w' ⟨rfl, hb⟩) | (go_at_call 11; refine (rget_calls _ _ _ _ hx).mono ?_; rintro e w' ⟨rfl, hb⟩) | (go_at_call 15; refine (set_calls _ _ _ _ _ hx).mono ?_; rintro e w' ⟨rfl, hb⟩) | (go_at_call 16; refine (rset_calls _ _ _ _ _ hx hv).mono ?_; rintro e w' ⟨rfl, hb⟩) | (go_at_call 17; refine (one_calls _).mono ?_; rintro e w' ⟨rfl, hb⟩))
  rename_i hh
  have HF := hh.2
  clear hh
  go_wp2
  go_ret
  exact ⟨rfl, HF.out⟩

theorem fields_wrong (a n : Int) (x v : Nat) (w : World) (hx : x < 18446744073709551616) (hv : v < 18446744073709551616) (hr : rightB a n = false) :
    Calls Try.prog 3 #[.agg #[.int .i64 a, .int .i64 n], .int .u64 x, .int .u64 v] w fun e w' => e = .returned (.bool true) ∧ Below w.heap.size w w' := by
  have hm : maxF a n = 0 := by simp [maxF, hr]
  have HR := Lib.hid hr
  have HM := Lib.hid hm
  clear hr hm
  go_enter Try.func3, Try.ntmps3
  go_wp2_with fail
  refine (own_calls _ _ _).mono ?_; rintro e w1 ⟨rfl, hb⟩
  have a1 : w1.cell? ⟨w.heap.size, 0, none⟩ = some (.int .i64 a) := kcell hb (by simp)
  have a2 : w1.cell? ⟨w.heap.size, 1, none⟩ = some (.int .i64 n) := kcell hb (by simp)
  have A1 := Lib.hid a1; have A2 := Lib.hid a2; clear a1 a2
  obtain ⟨hc, hf⟩ := bcell hb
  have HB := Lib.hid hb; clear hb
  go_wp2_with fail
  refine (rright_calls _ _ _).mono ?_; rintro e w2 ⟨rfl, rfl⟩
  rw [HR.out]
  go_wp2_with fail
  obtain ⟨w2, hw2⟩ : ∃ w2, w2 = (w1.alloc (.cells #[.int .i64 a, .int .i64 n] 25)).alloc (.cells #[.int .i64 a, .int .i64 n] 25) := ⟨_, rfl⟩
  have c1 : w2.cell? ⟨w.heap.size, 0, none⟩ = some (.int .i64 a) := by rw [hw2]; exact (kalloc _ (kalloc _ A1.out))
  have c2 : w2.cell? ⟨w.heap.size, 1, none⟩ = some (.int .i64 n) := by rw [hw2]; exact (kalloc _ (kalloc _ A2.out))
  have c3 : w2.cell? ⟨w1.heap.size, 0, none⟩ = some (.int .i64 a) := by rw [hw2]; exact (kalloc _ (by simp))
  have c4 : w2.cell? ⟨w1.heap.size, 1, none⟩ = some (.int .i64 n) := by rw [hw2]; exact (kalloc _ (by simp))
  have hB : Below w.heap.size w w2 := by rw [hw2]; exact bnew (bnew (bseq (bnew (Below.refl _ _) _) HB.out) _) _
  rw [← hw2]
  have HW := Lib.hid hB; clear hB
  clear hc hf HB A1 A2 hw2
  go_region_held3 (fun w' => (w'.cell? ⟨w.heap.size, 0, none⟩ = some (.int .i64 a) ∧ w'.cell? ⟨w.heap.size, 1, none⟩ = some (.int .i64 n) ∧ w'.cell? ⟨w1.heap.size, 0, none⟩ = some (.int .i64 a) ∧ w'.cell? ⟨w1.heap.size, 1, none⟩ = some (.int .i64 n)) ∧ Hid (Below w.heap.size w w')) (first | exact ⟨⟨c1, c2, c3, c4⟩, HW.out.drew⟩ | exact keep4 (by assumption) (by assumption)) (first | (go_at_call 12; refine (right_b _ _ _).mono ?_; rintro e w' ⟨rfl, hb⟩) | (go_at_call 10; refine (rright_b _ _ _).mono ?_; rintro e w' ⟨rfl, hb⟩) | (go_at_call 13; refine (max_b _ _ _).mono ?_; rintro e w' ⟨rfl, hb⟩; rw [HM.out]) | (go_at_call 14; refine (get_calls _ _ _ _ hx).mono ?_; rintro e w' ⟨rfl, hb⟩) | (go_at_call 11; refine (rget_calls _ _ _ _ hx).mono ?_; rintro e w' ⟨rfl, hb⟩) | (go_at_call 15; refine (set_calls _ _ _ _ _ hx).mono ?_; rintro e w' ⟨rfl, hb⟩) | (go_at_call 16; refine (rset_calls _ _ _ _ _ hx hv).mono ?_; rintro e w' ⟨rfl, hb⟩) | (go_at_call 17; refine (one_calls _).mono ?_; rintro e w' ⟨rfl, hb⟩))
  rename_i hh
  have HF := hh.2
  clear hh
  go_wp2
  go_ret
  exact ⟨rfl, HF.out⟩

theorem fields_calls (a n : Int) (x v : Nat) (w : World) (hx : x < 18446744073709551616) (hv : v < 18446744073709551616) :
    Calls Try.prog 3 #[.agg #[.int .i64 a, .int .i64 n], .int .u64 x, .int .u64 v] w fun e w' => e = .returned (.bool true) ∧ Below w.heap.size w w' := by
  cases hr : rightB a n with
  | true => exact fields_right a n x v w hx hv hr
  | false => exact fields_wrong a n x v w hx hv hr

theorem u64_nat {z : Int} (h : (Lit.int .u64 z).wf = true) : ∃ n : Nat, z = n ∧ n < 18446744073709551616 := by
  simp only [Lit.wf, Bool.and_eq_true, decide_eq_true_eq] at h
  have h1 : (0 : Int) ≤ z := h.1
  have h2 : z ≤ 18446744073709551615 := h.2
  exact ⟨z.toNat, by omega, by omega⟩
theorem wordFields_walk (a : Int) (_ : (Lit.int .i64 a).wf = true) (n : Int) (_ : (Lit.int .i64 n).wf = true) (x : Int) (hx : (Lit.int .u64 x).wf = true) (v : Int) (hv : (Lit.int .u64 v).wf = true) (w : World) :
    Calls Try.prog 3 #[.agg #[.int .i64 a, .int .i64 n], .int .u64 x, .int .u64 v] w fun e w' => e = .returned (.bool true) ∧ Below w.heap.size w w' := by
  obtain ⟨x, rfl, hx2⟩ := u64_nat hx
  obtain ⟨v, rfl, hv2⟩ := u64_nat hv
  exact fields_calls a n x v w hx2 hv2
end Go.Proofs.Ytpalehomjgbacaa
