/- contracts of the law's own functions: Plain, alike. -/
import Derived.Test.YtgfingdopelinaaScD
import Derived.Test.YtgfingdopelinaaScW
import Derived.Test.YtgfingdopelinaaScY
namespace Go.Proofs.Ytgfingdopelinaa
set_option linter.unusedSimpArgs false
set_option linter.unusedVariables false
open Go.RowKit Go.Deep

theorem plain_conf : confB ((3 : Nat) : Int) ((3 : Nat) : Int) ((24 : Nat) : Int) ((2 : Nat) : Int) (toInts [2, 4]) = true := by
  have hp : pop 2 = 1 := (pop_one 2 (by decide)).2 ⟨1, rfl⟩
  have hp4 : pop 4 = 1 := (pop_one 4 (by decide)).2 ⟨2, rfl⟩
  unfold confB boundedB sizesB trB toInts inB
  simp [hp, hp4]
theorem plain_calls (w : World) : Calls Try.prog 15 #[] w fun r w' => ∃ q, r = .returned (confV 3 (some ⟨q, 0, none⟩) 2 2 3 24 2) ∧ IsAt w' (some ⟨q, 0, none⟩) 2 2 (toInts [2, 4]) ∧ Below w.heap.size w w' ∧ w.heap.size ≤ q := by
  unfold confV
  go_enter Try.func15, Try.ntmps15
  go_wp2
  refine bodyPost_ret (v := .agg #[.int .i64 3, .slice (some ⟨w.heap.size + 1, 0, none⟩) 2 2, .int .i64 3, .int .i64 24, .int .i64 2]) (by simp [results, Try.results15, go_sem]) rfl ⟨w.heap.size + 1, rfl, ?_, ?_, Nat.le_succ _⟩
  · refine ⟨rfl, by omega, by omega, by unfold toInts; simp, fun _ => ⟨w.heap.size + 1, 0, rfl, fun i hi => ?_⟩⟩
    rw [Nat.zero_add]
    match i, hi with
    | 0, _ => simp [toInts]
    | 1, _ => simp [toInts]
  · exact bnew (bnew (Below.refl _ _) _) _
set_option maxRecDepth 100000 in
set_option maxHeartbeats 4000000 in
theorem alike_calls (t words blocks sweep : Int) (A B : Option Addr) (n c1 c2 : Nat) (zs : List Int) (w : World) (h1 : IsAt w A n c1 zs) (h2 : IsAt w B n c2 zs) :
    Calls Try.prog 17 #[confV t A n c1 words blocks sweep, confV t B n c2 words blocks sweep] w fun r w' => r = .returned (.bool true) ∧ Below w.heap.size w w' := by
  have hn : n ≤ 9223372036854775807 := by have := h1.2.1; have := h1.2.2.1; omega
  have H1 := Lib.hid h1
  have H2 := Lib.hid h2
  unfold confV
  clear h1 h2
  go_enter Try.func17, Try.ntmps17
  go_upto_region 1 with fail
  have HB1 := Lib.hid ((Blk.new w 24 [.int .i64 t, .slice A n c1, .int .i64 words, .int .i64 blocks, .int .i64 sweep]).alloc (.cells #[.int .i64 t, .slice B n c2, .int .i64 words, .int .i64 blocks, .int .i64 sweep] 24))
  have HB2 : Hid (Blk ((w.alloc (.cells #[.int .i64 t, .slice A n c1, .int .i64 words, .int .i64 blocks, .int .i64 sweep] 24)).alloc (.cells #[.int .i64 t, .slice B n c2, .int .i64 words, .int .i64 blocks, .int .i64 sweep] 24)) (w.heap.size + 1) 24 [.int .i64 t, .slice B n c2, .int .i64 words, .int .i64 blocks, .int .i64 sweep]) := Lib.hid (by
    have h := Blk.new (w.alloc (.cells #[.int .i64 t, .slice A n c1, .int .i64 words, .int .i64 blocks, .int .i64 sweep] 24)) 24 [.int .i64 t, .slice B n c2, .int .i64 words, .int .i64 blocks, .int .i64 sweep]
    simpa using h)
  have hbw : Below w.heap.size w ((w.alloc (.cells #[.int .i64 t, .slice A n c1, .int .i64 words, .int .i64 blocks, .int .i64 sweep] 24)).alloc (.cells #[.int .i64 t, .slice B n c2, .int .i64 words, .int .i64 blocks, .int .i64 sweep] 24)) := bnew (bnew (Below.refl _ _) _) _
  have H1' := Lib.hid (H1.out.below hbw)
  have H2' := Lib.hid (H2.out.below hbw)
  have HBW := Lib.hid hbw
  clear hbw H1 H2
  have HLE : Hid (∃ L, (w.alloc (.cells #[.int .i64 t, .slice A n c1, .int .i64 words, .int .i64 blocks, .int .i64 sweep] 24)) = L) := Lib.hid ⟨_, rfl⟩
  generalize (w.alloc (.cells #[.int .i64 t, .slice A n c1, .int .i64 words, .int .i64 blocks, .int .i64 sweep] 24)).alloc (.cells #[.int .i64 t, .slice B n c2, .int .i64 words, .int .i64 blocks, .int .i64 sweep] 24) = w2 at HB1 HB2 H1' H2' HBW ⊢
  clear HLE
  obtain ⟨c0, d1, d2, d3, d4⟩ := conf_cells HB1.out
  obtain ⟨e0, e1, e2, e3, e4⟩ := conf_cells HB2.out
  go_wp2_with fail
  go_loopg [5] n (fun g i wr => ∃ k : Nat, k ≤ n ∧ g = n - k ∧ i = .int .i64 k ∧ Hid (Below w2.heap.size w2 wr))
  case atStart => exact ⟨0, by omega, rfl, rfl, Lib.hid (Below.refl _ _)⟩
  case round =>
    obtain ⟨k, hk, rfl, rfl, HI⟩ := hrel
    clear c0 d1 d2 d3 d4 e0 e1 e2 e3 e4
    obtain ⟨c0, d1, d2, d3, d4⟩ := conf_cells (HB1.out.chg (chg_of_below (fun _ => False) HI.out) (fun h => h))
    obtain ⟨e0, e1, e2, e3, e4⟩ := conf_cells (HB2.out.chg (chg_of_below (fun _ => False) HI.out) (fun h => h))
    by_cases hlt : k < n
    · obtain ⟨b1, o1, rfl, hc1⟩ := H1'.out.2.2.2.2 (by omega)
      obtain ⟨b2, o2, rfl, hc2⟩ := H2'.out.2.2.2.2 (by omega)
      have f1 := kcell HI.out (hc1 k hlt)
      have f2 := kcell HI.out (hc2 k hlt)
      generalize zs.getD k 0 = z at f1 f2
      have i1 : (k : Int) < (n : Int) := by omega
      have i0 : (0 : Int) ≤ (k : Int) := Int.natCast_nonneg k
      clear hc1 hc2
      go_wp2_with fail
      go_quiet (fail)
      have HI2 : Hid (Below w2.heap.size w2 (wr.drewN nq)) := Lib.hid ⟨HI.out.os, HI.out.tape, HI.out.output, HI.out.size, HI.out.block⟩
      clear c0 d1 d2 d3 d4 e0 e1 e2 e3 e4 f1 f2
      go_wp2
      go_roundg (n - (k + 1))
      case measure => omega
      case rel => exact ⟨k + 1, by omega, rfl, by go_num, HI2⟩
    · obtain rfl : n = k := by omega
      clear hlt
      go_wp2
      go_ret
      exact ⟨rfl, bseq HBW.out HI.out⟩
end Go.Proofs.Ytgfingdopelinaa
