/- WordBack: the walk. -/
import Derived.Test.YtpalehomjgbacaaK
namespace Go.Proofs.Ytpalehomjgbacaa
open Go.RowKit

theorem set_is (a n : Int) (x v s : Nat) (w : World) (h : setF a n x v = s) (hx : x < 18446744073709551616) :
    Calls Try.prog 15 #[.agg #[.int .i64 a, .int .i64 n], .int .u64 x, .int .u64 v] w fun e w' => e = .returned (.int .u64 s) ∧ Below w.heap.size w w' := by
  subst h; exact set_calls a n x v w hx
theorem get_is (a n : Int) (x g : Nat) (w : World) (h : getF a n x = g) (hx : x < 18446744073709551616) :
    Calls Try.prog 14 #[.agg #[.int .i64 a, .int .i64 n], .int .u64 x] w fun e w' => e = .returned (.int .u64 g) ∧ Below w.heap.size w w' := by
  subst h; exact get_calls a n x w hx
theorem max_is (a n : Int) (g : Nat) (w : World) (h : maxF a n = g) :
    Calls Try.prog 13 #[.agg #[.int .i64 a, .int .i64 n]] w fun e w' => e = .returned (.int .u64 g) ∧ Below w.heap.size w w' := by
  subst h; exact max_b a n w

/-- what the first loop's round needs of a field and a number. -/
theorem round_facts (a n : Int) (x d : Nat) (hx : x < 18446744073709551616) (hd : d < 18446744073709551616) (hr : rightB a n = true) :
    ∃ s g y M : Nat, setF a n x d = s ∧ s < 18446744073709551616 ∧ getF a n s = g ∧ maxF a n = M ∧ bits BinOp.and IntKind.u64 (d : Int) (M : Int) = (g : Int) ∧ getF a n x = y ∧ setF a n x y = x := by
  refine ⟨_, _, _, _, rfl, setF_lt _ _ _ _ hx, rfl, rfl, ?_, rfl, set_get_same a n x hx⟩
  rw [u64_and_nat _ _ hd (maxF_lt a n), get_set_same a n x d hx hr]

set_option maxHeartbeats 2000000 in
set_option maxRecDepth 100000 in
theorem back_calls (A : Option Addr) (len cap : Nat) (l : List (List Int)) (A' : Option Addr) (len' cap' : Nat) (v : List (List Int)) (x : Nat) (w : World) (hl : RowsAt w [.i64, .i64] A len cap l) (hv : RowsAt w [.u64] A' len' cap' v) (hx : x < 18446744073709551616) (h30 : len ≤ 30) (h60 : len' ≤ 60) :
    Calls Try.prog 7 #[.slice A len cap, .slice A' len' cap', .int .u64 x] w fun e w' => e = .returned (.bool true) ∧ Below w.heap.size w w' := by
  have hlt : decide ((30 : Int) < (len : Int)) = false := by simp; omega
  have hlt' : decide ((60 : Int) < (len' : Int)) = false := by simp; omega
  have HL := Lib.hid hl; have HV := Lib.hid hv
  clear hl hv
  go_enter Try.func7, Try.ntmps7
  go_wp2
  go_loopw [7] (fun i wr => ∃ k : Nat, k ≤ len ∧ i = .int .i64 k ∧ Hid (Below w.heap.size w wr)) (fun i _ => len - (intOf i).toNat)
  case atStart => exact ⟨0, by omega, rfl, Below.refl _ _⟩
  case round =>
    obtain ⟨k, hk, rfl, HB⟩ := hrel
    by_cases hc : k < len ∧ k < len'
    · obtain ⟨hkl, hkl'⟩ := hc
      obtain ⟨b, off, rfl, c0, c1, _, _⟩ := field_cells (HL.out.below HB.out) hkl
      obtain ⟨b2, off2, rfl, c2, hd⟩ := num_cell (HV.out.below HB.out) hkl'
      have hlk : (k : Int) < (len : Int) := by omega
      have hlk' : (k : Int) < (len' : Int) := by omega
      have hk0 : (0 : Int) ≤ (k : Int) := by omega
      generalize fA l k = a at *
      generalize fB l k = n at *
      generalize vN v k = d at *
      cases hr : rightB a n with
      | false =>
        have HS := Lib.hid (show setF a n x d = x by simp [setF, hr])
        have HG := Lib.hid (show getF a n x = 0 by simp [getF, hr])
        have HR := Lib.hid hr
        clear hr hd
        go_wp2_with fail
        refine (right_b _ _ _ false HR.out).mono ?_; rintro e w1 ⟨rfl, hb1⟩
        have d0 := kcell hb1 c0
        have d1 := kcell hb1 c1
        have d2 := kcell hb1 c2
        have HB1 := Lib.hid (bseq HB.out hb1)
        clear hb1 c0 c1 c2
        go_wp2_with fail
        go_region_held3 (fun w' => (w'.cell? ⟨b, off + k * 2, none⟩ = some (.int .i64 a) ∧ w'.cell? ⟨b, off + k * 2 + 1, none⟩ = some (.int .i64 n) ∧ w'.cell? ⟨b2, off2 + k, none⟩ = some (.int .u64 (d : Nat))) ∧ Hid (Below w.heap.size w w')) (first | exact ⟨⟨d0, d1, d2⟩, HB1.out.drew⟩ | exact keep3 (by assumption) (by assumption)) (first | (go_at_call 15; refine (set_is _ _ _ _ _ _ HS.out hx).mono ?_; rintro e w' ⟨rfl, hb⟩) | (go_at_call 14; refine (get_is _ _ _ _ _ HG.out hx).mono ?_; rintro e w' ⟨rfl, hb⟩))
        rename_i hh
        have HW := hh.2
        clear hh hb HB1 d0 d1 d2
        go_wp2
        go_roundw
        case rel => exact ⟨k + 1, by omega, by go_num, HW⟩
        case measure => simp [intOf]; omega
      | true =>
        obtain ⟨s, g, y, M, e1, e2, e3, e4, e5, e6, e7⟩ := round_facts a n x d hx hd hr
        have HS := Lib.hid e1; have HSL := Lib.hid e2; have HG := Lib.hid e3; have HM := Lib.hid e4; have HY := Lib.hid e6; have HX := Lib.hid e7
        have HR := Lib.hid hr
        clear hr hd e1 e2 e3 e4 e6 e7
        go_wp2_with fail
        refine (right_b _ _ _ true HR.out).mono ?_; rintro e w1 ⟨rfl, hb1⟩
        have d0 := kcell hb1 c0
        have d1 := kcell hb1 c1
        have d2 := kcell hb1 c2
        have HB1 := Lib.hid (bseq HB.out hb1)
        clear hb1 c0 c1 c2
        go_wp2_with fail
        go_region_held3 (fun w' => (w'.cell? ⟨b, off + k * 2, none⟩ = some (.int .i64 a) ∧ w'.cell? ⟨b, off + k * 2 + 1, none⟩ = some (.int .i64 n) ∧ w'.cell? ⟨b2, off2 + k, none⟩ = some (.int .u64 (d : Nat))) ∧ Hid (Below w.heap.size w w')) (first | exact ⟨⟨d0, d1, d2⟩, HB1.out.drew⟩ | exact keep3 (by assumption) (by assumption)) (first | (go_at_call 15; (with_reducible refine (set_is a n x d s _ HS.out hx).mono ?_); rintro e w' ⟨rfl, hb⟩) | (go_at_call 15; (with_reducible refine (set_is a n x y x _ HX.out hx).mono ?_); rintro e w' ⟨rfl, hb⟩) | (go_at_call 14; (with_reducible refine (get_is a n s g _ HG.out HSL.out).mono ?_); rintro e w' ⟨rfl, hb⟩) | (go_at_call 14; (with_reducible refine (get_is a n x y _ HY.out hx).mono ?_); rintro e w' ⟨rfl, hb⟩) | (go_at_call 13; (with_reducible refine (max_is a n M _ HM.out).mono ?_); rintro e w' ⟨rfl, hb⟩))
        rename_i hh
        have HW := hh.2
        clear hh hb HB1 d0 d1 d2
        go_wp2
        go_roundw
        case rel => exact ⟨k + 1, by omega, by go_num, HW⟩
        case measure => simp [intOf]; omega
    · rcases (show (k < len ∧ ¬ k < len') ∨ ¬ k < len by omega) with ⟨g1, g2⟩ | g1
      all_goals
        go_wp2_with fail
        refine (apart_calls _ _ _ _ _ (HL.out.below HB.out)).mono ?_
        rintro e w1 ⟨rfl, hb1⟩
        have HB1 := Lib.hid (bseq HB.out hb1)
        clear hb1
        cases hap : apartU l len 0 0 with
        | false =>
          go_wp2_with (first | (go_at_call 17; refine (one_calls _).mono ?_; rintro e w' ⟨rfl, hb⟩))
          go_ret
          exact ⟨rfl, bseq HB1.out hb⟩
        | true =>
          have HPB := Lib.hid (fun i hi => pack_back l v len len' i hap hi)
          have HPL := Lib.hid (pack_lt l v (min len len') 0 0 (by decide))
          clear hap
          go_wp2_with fail
          refine (pack_calls _ _ _ _ _ _ _ _ _ (HL.out.below HB1.out) (HV.out.below HB1.out)).mono ?_
          rintro e w2 ⟨rfl, hb2⟩
          have HB2 := Lib.hid (bseq HB1.out hb2)
          clear hb2
          generalize packU l v (min len len') 0 0 = p at *
          go_wp2_with fail
          go_loopw [9, 10] (fun i _ wr => ∃ j : Nat, j ≤ len ∧ i = .int .i64 j ∧ Hid (Below w.heap.size w wr)) (fun i _ _ => len - (intOf i).toNat)
          case atStart => exact ⟨0, by omega, rfl, HB2.out⟩
          case round =>
            obtain ⟨j, hj, rfl, HB3⟩ := hrel
            by_cases hjl : j < len
            · obtain ⟨b, off, rfl, c0, c1, _, _⟩ := field_cells (HL.out.below HB3.out) hjl
              have hlj : (j : Int) < (len : Int) := by omega
              have hj0 : (0 : Int) ≤ (j : Int) := by omega
              obtain ⟨hr, hg⟩ := HPB.out j hjl
              by_cases hjl' : j < len'
              · obtain ⟨b2, off2, rfl, c2, hd⟩ := num_cell (HV.out.below HB3.out) hjl'
                have hlj' : (j : Int) < (len' : Int) := by omega
                rw [if_pos hjl'] at hg
                have hM := maxF_lt (fA l j) (fB l j)
                have hand := u64_and_nat (vN v j) (maxF (fA l j) (fB l j)) hd hM
                obtain ⟨M, hMM⟩ : ∃ M, maxF (fA l j) (fB l j) = M := ⟨_, rfl⟩
                rw [hMM] at hg hand
                obtain ⟨g, hgg⟩ : ∃ g, vN v j &&& M = g := ⟨_, rfl⟩
                rw [hgg] at hg hand
                generalize fA l j = a at *
                generalize fB l j = n at *
                generalize vN v j = d at *
                have HG := Lib.hid hg; have HM := Lib.hid hMM
                clear hr hg hMM hgg hM hd
                go_wp2_with fail
                go_region_held3 (fun w' => (w'.cell? ⟨b, off + j * 2, none⟩ = some (.int .i64 a) ∧ w'.cell? ⟨b, off + j * 2 + 1, none⟩ = some (.int .i64 n) ∧ w'.cell? ⟨b2, off2 + j, none⟩ = some (.int .u64 (d : Nat))) ∧ Hid (Below w.heap.size w w')) (first | exact ⟨⟨c0, c1, c2⟩, HB3.out.drew⟩ | exact keep3 (by assumption) (by assumption)) (first | (go_at_call 13; (with_reducible refine (max_is a n M _ HM.out).mono ?_); rintro e w' ⟨rfl, hb⟩))
                rename_i hh
                have HW := Lib.hid hh.2
                obtain ⟨⟨f0, f1, f2⟩, _⟩ := hh
                clear hb c0 c1 c2
                go_wp2_with (first | (go_at_call 14; (with_reducible refine (get_is a n p g _ HG.out HPL.out).mono ?_); rintro e w'' ⟨rfl, hb3⟩))
                go_roundw
                case rel => exact ⟨j + 1, by omega, by go_num, bseq HW.out.out hb3⟩
                case measure => simp [intOf]; omega
              · have hlj' : ¬ (j : Int) < (len' : Int) := by omega
                rw [if_neg hjl'] at hg
                generalize fA l j = a at *
                generalize fB l j = n at *
                have HG := Lib.hid hg
                clear hr hg
                go_wp2_with (first | (go_at_call 14; (with_reducible refine (get_is a n p 0 _ HG.out HPL.out).mono ?_); rintro e w'' ⟨rfl, hb3⟩))
                go_roundw
                case rel => exact ⟨j + 1, by omega, by go_num, bseq HB3.out hb3⟩
                case measure => simp [intOf]; omega
            · go_wp2_with (first | (go_at_call 17; refine (one_calls _).mono ?_; rintro e w' ⟨rfl, hb⟩))
              go_ret
              exact ⟨rfl, bseq HB3.out hb⟩

theorem wordBack_walk (A : Option Addr) (len cap : Nat) (l : List (List Int)) (A' : Option Addr) (len' cap' : Nat) (v : List (List Int)) (x : Int) (hx : (Lit.int .u64 x).wf = true) (w : World) (hl : RowsAt w [.i64, .i64] A len cap l) (hv : RowsAt w [.u64] A' len' cap' v) :
    Calls Try.prog 7 #[.slice A len cap, .slice A' len' cap', .int .u64 x] w fun e w' => e = .returned (.bool true) ∧ Below w.heap.size w w' := by
  have hb1 := hl.2.1
  have hb2 := hl.2.2.1
  have hb3 := hv.2.1
  have hb4 := hv.2.2.1
  obtain ⟨x, rfl, hx2⟩ : ∃ n : Nat, x = n ∧ n < 18446744073709551616 := by
    simp only [Lit.wf, Bool.and_eq_true, decide_eq_true_eq] at hx
    have h1 : (0 : Int) ≤ x := hx.1
    have h2 : x ≤ 18446744073709551615 := hx.2
    exact ⟨x.toNat, by omega, by omega⟩
  by_cases h40 : len ≤ 30
  · by_cases h80 : len' ≤ 60
    · exact back_calls A len cap l A' len' cap' v x w hl hv hx2 h40 h80
    · have hlt : decide ((30 : Int) < (len : Int)) = false := by simp; omega
      have hlt' : decide ((60 : Int) < (len' : Int)) = true := by simp; omega
      clear hl hv h40 h80 hx hx2
      go_enter Try.func7, Try.ntmps7
      go_wp2
      go_ret
      exact ⟨rfl, Below.refl _ _⟩
  · have hlt : decide ((30 : Int) < (len : Int)) = true := by simp; omega
    clear hl hv h40 hx hx2
    go_enter Try.func7, Try.ntmps7
    go_wp2
    go_ret
    exact ⟨rfl, Below.refl _ _⟩
end Go.Proofs.Ytpalehomjgbacaa
