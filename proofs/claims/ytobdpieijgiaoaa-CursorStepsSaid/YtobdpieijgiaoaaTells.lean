/- the walk of CursorTells. -/
import Derived.Test.YtobdpieijgiaoaaOne
import Derived.Test.YtobdpieijgiaoaaSize
namespace Go.Proofs.Ytobdpieijgiaoaa
open Go.RowKit Go.Deep

theorem u64_nat {z : Int} (h : (Lit.int .u64 z).wf = true) : ∃ n : Nat, z = n ∧ n < 18446744073709551616 := by
  simp only [Lit.wf, Bool.and_eq_true, decide_eq_true_eq] at h
  have h1 : (0 : Int) ≤ z := h.1
  have h2 : z ≤ 18446744073709551615 := h.2
  exact ⟨z.toNat, by omega, by omega⟩
theorem right_size (n : Int) : rightC (0 : Nat) (sizeN n : Nat) = true := by
  rcases sizeN_of n with h | h | h | h <;> rw [h] <;> decide +kernel
/-- the two fields of a row's element. -/
theorem ask_cells {w : World} {A : Option Addr} {len cap : Nat} {l : List (List Int)} (h : RowsAt w [.i64, .i64] A len cap l) {k : Nat} (hk : k < len) :
    ∃ b off : Nat, ∃ x y : Int, A = some ⟨b, off, none⟩ ∧ w.cell? ⟨b, off + k * 2, none⟩ = some (.int .i64 x) ∧ w.cell? ⟨b, off + k * 2 + 1, none⟩ = some (.int .i64 y) ∧ l.getD k [] = [x, y] := by
  obtain ⟨h1, h2, h3, h4, h5⟩ := h
  obtain ⟨b, off, rfl, hc⟩ := h5 (by omega)
  have hz := h4 (l.getD k []) (by have : k < l.length := by omega
                                  simp [List.getD, this])
  match hl : l.getD k [], hz with
  | [x, y], _ =>
    have c0 := hc k hk 0 (.int .i64 x) (by rw [hl]; rfl)
    have c1 := hc k hk 1 (.int .i64 y) (by rw [hl]; rfl)
    exact ⟨b, off, x, y, rfl, c0, c1, rfl⟩

theorem step_a (s m p : Nat) (hm : m ≠ 0) : stepN ⟨0, s, m, [], 0, 0, 0, 0, 0⟩ [p] = (⟨0, s, m, [], 2, 0, p, 0, 0⟩, [p]) := by simp [stepN, hm]
theorem step_b (s m p : Nat) : stepN ⟨0, s, m, [], 2, 0, p, 0, 0⟩ [p] = (⟨0, s, m, [], 3, 0, p, 0, 0⟩, [(p + m) % 18446744073709551616]) := by simp [stepN]
theorem step_t (s p : Nat) : stepN ⟨0, s, 0, [], 0, 0, 0, 0, 0⟩ [p] = (⟨0, s, 0, [], 3, 0, p, 0, 0⟩, [p]) := by simp [stepN]
theorem nok_a (s m pc p : Nat) (hs : s ≤ 1024) (hm : m ≤ 1024) (hp : p < 18446744073709551616) (hpc : pc = 0 ∨ pc = 2) : NOk ⟨0, s, m, [], pc, 0, p, 0, 0⟩ 1 :=
  ⟨Nat.zero_lt_one, hs, hm, by simp, by simp, hp, by show 0 < 18446744073709551616; decide, by intro h; simp at h; omega, by show pc ≤ 3; omega⟩

set_option maxHeartbeats 4000000 in
set_option maxRecDepth 100000 in
theorem cursorTells_walk (n : Int) (_hn : (Lit.int .i64 n).wf = true) (f : Int) (hf : (Lit.int .u64 f).wf = true) (A : Option Addr) (len cap : Nat) (l : List (List Int)) (W : World) (hl : RowsAt W [.i64, .i64] A len cap l) :
    Calls Try.prog 4 #[.int .i64 n, .int .u64 f, .slice A len cap] W fun e w' => e = .returned (.bool true) ∧ Below W.heap.size W w' := by
  obtain ⟨f, rfl, hfl⟩ := u64_nat hf
  have hlen : len ≤ 9223372036854775807 := by have := hl.2.1; have := hl.2.2.1; omega
  have HLR := Lib.hid hl
  obtain ⟨q, hq, hql⟩ : ∃ q : Nat, bits .and .u64 (f : Int) 1099511627775 = (q : Int) ∧ q < 4611686018427387904 := by
    refine ⟨f &&& 1099511627775, u64_and_nat f 1099511627775 hfl (by decide), ?_⟩
    have := @Nat.and_le_right f 1099511627775
    omega
  have hr := right_size n
  have hsz := sizeN_of n
  have HSZ := fun w => Lib.hid (size_calls n w)
  generalize sizeN n = s at *
  have HR := Lib.hid hr
  have hs8 : s ≤ 8 ∧ 1 ≤ s := by omega
  clear hl hr hf hfl hsz
  obtain ⟨W1, hW⟩ : ∃ W1, W1 = W.alloc (.cells #[.int .i64 0, .int .i64 (s : Int)] 23) := ⟨_, rfl⟩
  have hbox : Blk W1 W.heap.size 23 [.int .i64 0, .int .i64 (s : Int)] := by rw [hW]; exact blk_new W _ _ _ rfl
  have hbe : Below W.heap.size W W1 := by rw [hW]; exact bnew (Below.refl _ _) _
  have HB := Lib.hid (And.intro hbox hbe)
  clear hbox hbe
  go_enter Try.func4, Try.ntmps4
  go_wp2_with fail
  refine (HSZ W).out.mono ?_; rintro e w' ⟨rfl, rfl⟩
  go_wp2_with fail
  rw [← hW]
  clear hW
  refine (new_calls 1 W1 (by decide) (by decide)).mono ?_; rintro e w1 ⟨b, bw, bb, rfl, hm, h1, h2, h3, hb⟩
  have hs := sys_new HB.out.2 (Nat.le_refl _) HB.out.1 hm h1 h2 h3 hb
  have H1 : Hid (Sys W w1 W.heap.size (0 : Nat) (s : Nat) b bw bb [0]) := Lib.hid hs
  have x0 : w1.cell? ⟨W.heap.size, 0, none⟩ = some (.int .i64 0) := hs.box.cell 0
  have x1 : w1.cell? ⟨W.heap.size, 1, none⟩ = some (.int .i64 s) := hs.box.cell 1
  clear hs hm h1 h2 h3 hb HB
  go_wp2_with fail
  refine (s_setup (x := q) H1.out HR.out (by decide) hql).mono ?_; rintro e w2 ⟨rfl, hs⟩
  have H2 : Hid (Sys W w2 W.heap.size (0 : Nat) (s : Nat) b bw bb [q]) := Lib.hid hs
  clear hs x0 x1 H1
  go_wp2_with fail
  go_loopw [10, 11] (fun p i wr => ∃ k x : Nat, k ≤ len ∧ p = .int .u64 x ∧ x < 18446744073709551616 ∧ i = .int .i64 k ∧ Hid (Sys W wr W.heap.size (0 : Nat) (s : Nat) b bw bb [x])) (fun _ i _ => len - (intOf i).toNat)
  case atStart => exact ⟨0, q, by omega, rfl, by omega, rfl, H2⟩
  case round =>
    obtain ⟨k, x, hk, rfl, hx, rfl, HI⟩ := hrel
    by_cases hlt : k < len
    · by_cases h60 : k < 60
      · have t60 : decide ((k : Int) < 60) = true := by simp; omega
        obtain ⟨ba, off, z, z2, rfl, hc0, hc1, _⟩ := ask_cells (HLR.out.below HI.out.below) hlt
        clear hc1
        have y0 : wr.cell? ⟨W.heap.size, 0, none⟩ = some (.int .i64 0) := HI.out.box.cell 0
        have y1 : wr.cell? ⟨W.heap.size, 1, none⟩ = some (.int .i64 s) := HI.out.box.cell 1
        obtain ⟨d, hd⟩ : ∃ d : Nat, z % 8 = d := ⟨(z % 8).toNat, by omega⟩
        have hand : bits .and .i64 z 7 = (d : Int) := by rw [and7, hd]
        obtain ⟨m, hm⟩ : ∃ m, 1 + d % s = m := ⟨_, rfl⟩
        have hms : 1 ≤ m ∧ m ≤ s := by have := Nat.mod_lt d (show 0 < s by omega); omega
        have hs00 : ¬ s = 0 := by omega
        have hmi : (1 + (d : Int) % (s : Int)) = (m : Int) := by rw [← hm]; simp
        have HMI := Lib.hid hmi
        have HSUM : Hid (IntKind.i64.wrap (1 + (d : Int).tmod (s : Int)) = (m : Int)) := Lib.hid (by
          rw [show (d : Int).tmod (s : Int) = ((d % s : Nat) : Int) from rfl, IntKind.wrap_i64]; omega)
        have HW64 : Hid (wrap64 (m : Int) = (m : Int)) := Lib.hid (by unfold wrap64; omega)
        have wm : IntKind.u64.wrap (m : Int) = (m : Int) := wrap_small m (by omega)
        obtain ⟨x', hx'⟩ : ∃ x', (x + m) % 18446744073709551616 = x' := ⟨_, rfl⟩
        have hxl : x' < 18446744073709551616 := by rw [← hx']; exact Nat.mod_lt _ (by decide)
        have wx : IntKind.u64.wrap ((x : Int) + (m : Int)) = (x' : Int) := by rw [← Int.natCast_add, wrap_nat, hx']
        have HX := Lib.hid hx'
        clear hd hm hmi hx'
        go_wp2_with fail
        go_still_tail 10, (by kernel_rfl)
        change wpList _ _ _ _ _ wr.drew
        have HI2 : Hid (Sys W wr.drew W.heap.size (0 : Nat) (s : Nat) b bw bb [x]) := Lib.hid HI.out.drew
        obtain ⟨w3, hw3⟩ : ∃ w3, w3 = wr.drew := ⟨_, rfl⟩
        rw [← hw3] at HI2 ⊢
        clear hw3 y0 y1
        have y0 : w3.cell? ⟨W.heap.size, 0, none⟩ = some (.int .i64 0) := HI2.out.box.cell 0
        have y1 : w3.cell? ⟨W.heap.size, 1, none⟩ = some (.int .i64 s) := HI2.out.box.cell 1
        go_wp2_with fail
        rw [HMI.out, HSUM.out, HW64.out]
        refine (s_claim (m := m) (words := []) none 0 HI2.out HR.out hms (by decide) (fun h => absurd h (by decide))).mono ?_; rintro e w4 ⟨bo, bwd, rfl, ho, hs, hap, hge, _, _, _⟩
        have H4 : Hid (OpAt w4 bo bwd ⟨0, s, m, [], 0, 0, 0, 0, 0⟩ ∧ Sys W w4 W.heap.size (0 : Nat) (s : Nat) b bw bb [x]) := Lib.hid ⟨ho, hs⟩
        have HA := Lib.hid (And.intro hap hge)
        clear ho hs hap hge y0 y1
        go_wp2_with fail
        have hs1 := s_step H4.out.2 H4.out.1 (nok_a s m 0 0 (by omega) (by omega) (by decide) (.inl rfl)) HA.out.1 HA.out.2
        have hst := nok_a s m 2 x (by omega) (by omega) hx (.inr rfl)
        have hstt := nok_a s 0 0 0 (by omega) (by omega) (by decide) (.inl rfl)
        have HN2 := Lib.hid hst
        have HNT := Lib.hid hstt
        clear hst hstt
        refine hs1.mono ?_; rintro e w5 ⟨he, ho, hs, _⟩
        rw [step_a s m x (by omega)] at he ho hs
        clear hs1
        obtain rfl : e = .returned (.bool false) := he
        have H5 : Hid (OpAt w5 bo bwd ⟨0, s, m, [], 2, 0, x, 0, 0⟩ ∧ Sys W w5 W.heap.size (0 : Nat) (s : Nat) b bw bb [x]) := Lib.hid ⟨ho, hs⟩
        clear ho hs
        go_wp2_with fail
        refine (s_done H5.out.1).mono ?_; rintro e w' ⟨he, rfl⟩
        obtain rfl : e = .returned (.bool false) := he
        go_wp2_with fail
        refine (s_step H5.out.2 H5.out.1 HN2.out HA.out.1 HA.out.2).mono ?_; rintro e w6 ⟨he, ho, hs, _⟩
        rw [step_b s m x] at he ho hs
        obtain rfl : e = .returned (.bool true) := he
        have H6 : Hid (OpAt w6 bo bwd ⟨0, s, m, [], 3, 0, x, 0, 0⟩ ∧ Sys W w6 W.heap.size (0 : Nat) (s : Nat) b bw bb [x']) := Lib.hid ⟨ho, by rw [← HX.out]; exact hs⟩
        clear ho hs
        go_wp2_with fail
        refine (s_result H6.out.1).mono ?_; rintro e w7 ⟨he, hb⟩
        obtain rfl : e = .returned (.tuple #[.int .i64 0, .int .u64 (x : Nat)]) := he
        have hs := H6.out.2.keep hb
        have H7 := Lib.hid hs
        have y0 : w7.cell? ⟨W.heap.size, 0, none⟩ = some (.int .i64 0) := hs.box.cell 0
        have y1 : w7.cell? ⟨W.heap.size, 1, none⟩ = some (.int .i64 s) := hs.box.cell 1
        clear hs hb
        go_wp2_with fail
        refine (s_tell H7.out HR.out).mono ?_; rintro e w8 ⟨bo2, bwd2, rfl, ho, hs, hap, hge, _, _, _⟩
        have H8 : Hid (OpAt w8 bo2 bwd2 ⟨0, s, 0, [], 0, 0, 0, 0, 0⟩ ∧ Sys W w8 W.heap.size (0 : Nat) (s : Nat) b bw bb [x']) := Lib.hid ⟨ho, hs⟩
        have HA2 := Lib.hid (And.intro hap hge)
        clear ho hs hap hge y0 y1
        go_wp2_with fail
        refine (s_step H8.out.2 H8.out.1 HNT.out HA2.out.1 HA2.out.2).mono ?_; rintro e w9 ⟨he, ho, hs, _⟩
        rw [step_t s x'] at he ho hs
        obtain rfl : e = .returned (.bool true) := he
        have H9 : Hid (OpAt w9 bo2 bwd2 ⟨0, s, 0, [], 3, 0, x', 0, 0⟩ ∧ Sys W w9 W.heap.size (0 : Nat) (s : Nat) b bw bb [x']) := Lib.hid ⟨ho, hs⟩
        clear ho hs
        go_wp2_with fail
        refine (s_result H9.out.1).mono ?_; rintro e w10 ⟨he, hb⟩
        obtain rfl : e = .returned (.tuple #[.int .i64 0, .int .u64 (x' : Nat)]) := he
        have HE := Lib.hid (H9.out.2.keep hb)
        clear hb
        go_wp2
        go_roundw
        case rel => exact ⟨k + 1, x', by omega, rfl, hxl, by go_num, HE⟩
        case measure => simp [intOf]; omega
      · have t60 : decide ((k : Int) < 60) = false := by simp; omega
        go_wp2_with fail
        refine (trap_calls b bw bb [x] wr HI.out.mem).mono ?_; rintro e w' ⟨rfl, rfl⟩
        go_wp2_with fail
        refine (one_calls wr).mono ?_; rintro e w9 ⟨rfl, hb⟩
        have HE := Lib.hid (bseq HI.out.below hb)
        clear hb
        go_wp2
        go_ret
        exact ⟨rfl, HE.out⟩
    · have tk : decide (k < len) = false := by simp; omega
      clear hlt
      go_wp2_with fail
      refine (trap_calls b bw bb [x] wr HI.out.mem).mono ?_; rintro e w' ⟨rfl, rfl⟩
      go_wp2_with fail
      refine (one_calls wr).mono ?_; rintro e w9 ⟨rfl, hb⟩
      have HE := Lib.hid (bseq HI.out.below hb)
      clear hb
      go_wp2
      go_ret
      exact ⟨rfl, HE.out⟩
end Go.Proofs.Ytobdpieijgiaoaa
