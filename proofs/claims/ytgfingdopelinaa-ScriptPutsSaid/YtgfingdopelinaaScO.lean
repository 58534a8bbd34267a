/- contract of one: a script that is known. -/
import Derived.Test.YtgfingdopelinaaScV
import Derived.Test.YtgfingdopelinaaScZ
namespace Go.Proofs.Ytgfingdopelinaa
set_option linter.unusedSimpArgs false
set_option linter.unusedVariables false
open Go.RowKit Go.Deep

def en1 : En := { enZero with thread := 3, pick := true }
theorem conf1 : confB ((4 : Nat) : Int) ((2 : Nat) : Int) ((3 : Nat) : Int) ((1 : Nat) : Int) (toInts [2]) = true := by
  have hp : pop 2 = 1 := (pop_one 2 (by decide)).2 ⟨1, rfl⟩
  unfold confB boundedB sizesB trB toInts inB
  simp [hp]
theorem en1_ok : EnOk en1 := EnOk.pick 3 (by decide)
theorem put1 : putS ((4 : Nat) : Int) ((2 : Nat) : Int) ((3 : Nat) : Int) ((1 : Nat) : Int) (toInts [2]) [en1] = [4, 1, 2, 2, 3, 1, 1, 7] := by
  unfold putS
  rw [toInts_toNat, toInts_len]
  have h1 : putE en1.clean = putN 7 := by rw [(enok_clean en1_ok).1]; exact pick_eq 3
  simp only [List.flatMap_cons, List.flatMap_nil, h1, Int.toNat_natCast, List.length_cons, List.length_nil, putL_cons, putL_nil]
  simp [putN_small]
theorem read1 : rdOk [4, 1, 2, 2, 3, 1, 1, 7] = true ∧ (rdA [4, 1, 2, 2, 3, 1, 1, 7]).1 = 4 ∧ (rdT [4, 1, 2, 2, 3, 1, 1, 7]).1 = [2] ∧ (rdE [4, 1, 2, 2, 3, 1, 1, 7]).1 = [en1] := by
  obtain ⟨h1, h2, h3, h4, h5, h6⟩ := put_read 4 2 3 1 [2] [en1] [] (by decide) (by decide) (by decide) (by decide) (by decide) (by decide) (by decide) (fun e he => by simp at he; subst he; exact en1_ok) [4, 1, 2, 2, 3, 1, 1, 7] (by rw [put1]; rfl)
  refine ⟨?_, h1, h2, by rw [h6]⟩
  unfold rdOk
  rw [h1, h2, h3, h4, h5, h6, conf1]
  rfl
theorem own_bsat {w : World} {base : Nat} {A : Option Addr} {n c : Nat} {bs : List Nat} (h : w.ownsRow base 5 1 (.slice A n c) bs.length (u8s bs)) (hb : ∀ x ∈ bs, x < 256) : BsAt w A n c bs ∧ AtLt A w.heap.size := by
  have hlt : AtLt A w.heap.size := by
    intro a e
    subst e
    exact (h.lt a.block rfl).2
  refine ⟨?_, hlt⟩
  rcases h.2 with ⟨h0, h1⟩ | ⟨g, cap, cur, h0, h1, h2, h3, h4, _⟩
  · injection h0 with e1 e2 e3
    subst e1 e2 e3
    exact ⟨h1, by omega, by omega, hb, fun h => by omega, fun _ => rfl⟩
  · injection h0 with e1 e2 e3
    subst e1 e2 e3
    refine ⟨rfl, h3, by simpa [maxLen] using h4, hb, fun hp => ⟨g, 0, rfl, fun i hi => ?_⟩, fun e => by cases e⟩
    have := h.cells (g := g) rfl i (.int .u8 (bs.getD i 0 : Nat)) (by unfold u8s; rw [List.getElem?_map, List.getElem?_eq_getElem hi]; simp [List.getD, hi])
    rw [add_none] at this
    exact this
theorem BsAt.drewN {w : World} {A : Option Addr} {n cap : Nat} {bs : List Nat} (h : BsAt w A n cap bs) (k : Nat) : BsAt (w.drewN k) A n cap bs := h.kept (fun a u ha _ => ha)
theorem eq_entry (a : Int) (b : Bool) (w : World) : (binOp .eql 34 (.agg #[.int .i64 3, .bool true, .int .i64 0, .int .i64 0, .int .i64 0, .int .u64 0, .int .i64 0, .string { data := #[] }, .int .u64 0]) (.agg #[.int .i64 3, .bool true, .int .i64 0, .int .i64 0, .int .i64 0, .int .u64 0, .int .i64 0, .string { data := #[] }, .int .u64 0])).run Try.prog w = .ok (.bool true) w := by kernel_rfl
set_option maxRecDepth 100000 in
set_option maxHeartbeats 4000000 in
theorem one_calls (w : World) : Calls Try.prog 14 #[] w fun e w' => e = .returned (.bool true) ∧ Below w.heap.size w w' := by
  go_enter Try.func14, Try.ntmps14
  go_upto_region 2 with fail
  have hI : IsAt (((w.alloc (.cells #[.int .i64 2] 3)).alloc (.cells #[.int .i64 3, .bool true, .int .i64 0, .int .i64 0, .int .i64 0, .int .u64 0, .int .i64 0, .string { data := #[] }, .int .u64 0] 34)).alloc (.cells #[.int .i64 4, .slice (some ⟨w.heap.size, 0, none⟩) 1 1, .int .i64 2, .int .i64 3, .int .i64 1, .slice (some ⟨w.heap.size + 1, 0, none⟩) 1 1] 46)) (some ⟨w.heap.size, 0, none⟩) 1 1 (toInts [2]) := by
    refine ⟨rfl, by omega, by omega, by unfold toInts; simp, fun _ => ⟨w.heap.size, 0, rfl, fun i hi => ?_⟩⟩
    obtain rfl : i = 0 := by omega
    exact (((Blk.new w 3 [.int .i64 2]).alloc _).alloc _).cell 0
  have hE : EnsAt (((w.alloc (.cells #[.int .i64 2] 3)).alloc (.cells #[.int .i64 3, .bool true, .int .i64 0, .int .i64 0, .int .i64 0, .int .u64 0, .int .i64 0, .string { data := #[] }, .int .u64 0] 34)).alloc (.cells #[.int .i64 4, .slice (some ⟨w.heap.size, 0, none⟩) 1 1, .int .i64 2, .int .i64 3, .int .i64 1, .slice (some ⟨w.heap.size + 1, 0, none⟩) 1 1] 46)) (some ⟨w.heap.size + 1, 0, none⟩) 1 1 [en1] := by
    refine ⟨rfl, by omega, by omega, by intro e he; simp at he; subst he; exact ⟨Nat.zero_lt_succ _, Nat.zero_lt_succ _⟩, fun _ => ⟨w.heap.size + 1, 0, rfl, fun i hi j v hv => ?_⟩⟩
    obtain rfl : i = 0 := by omega
    have hb := (Blk.new (w.alloc (.cells #[.int .i64 2] 3)) 34 [.int .i64 3, .bool true, .int .i64 0, .int .i64 0, .int .i64 0, .int .u64 0, .int .i64 0, .string { data := #[] }, .int .u64 0]).alloc (.cells #[.int .i64 4, .slice (some ⟨w.heap.size, 0, none⟩) 1 1, .int .i64 2, .int .i64 3, .int .i64 1, .slice (some ⟨w.heap.size + 1, 0, none⟩) 1 1] 46)
    have hz : (w.alloc (.cells #[.int .i64 2] 3)).heap.size = w.heap.size + 1 := by simp
    rw [hz] at hb
    rw [show (0 : Nat) + (0 * 9 + j) = j by omega]
    exact (hb.cell j).trans hv
  have hS : Blk (((w.alloc (.cells #[.int .i64 2] 3)).alloc (.cells #[.int .i64 3, .bool true, .int .i64 0, .int .i64 0, .int .i64 0, .int .u64 0, .int .i64 0, .string { data := #[] }, .int .u64 0] 34)).alloc (.cells #[.int .i64 4, .slice (some ⟨w.heap.size, 0, none⟩) 1 1, .int .i64 2, .int .i64 3, .int .i64 1, .slice (some ⟨w.heap.size + 1, 0, none⟩) 1 1] 46)) (w.heap.size + 1 + 1) 46 [.int .i64 4, .slice (some ⟨w.heap.size, 0, none⟩) 1 1, .int .i64 2, .int .i64 3, .int .i64 1, .slice (some ⟨w.heap.size + 1, 0, none⟩) 1 1] := by
    have h := Blk.new ((w.alloc (.cells #[.int .i64 2] 3)).alloc (.cells #[.int .i64 3, .bool true, .int .i64 0, .int .i64 0, .int .i64 0, .int .u64 0, .int .i64 0, .string { data := #[] }, .int .u64 0] 34)) 46 [.int .i64 4, .slice (some ⟨w.heap.size, 0, none⟩) 1 1, .int .i64 2, .int .i64 3, .int .i64 1, .slice (some ⟨w.heap.size + 1, 0, none⟩) 1 1]
    simpa using h
  have hB : Below w.heap.size w (((w.alloc (.cells #[.int .i64 2] 3)).alloc (.cells #[.int .i64 3, .bool true, .int .i64 0, .int .i64 0, .int .i64 0, .int .u64 0, .int .i64 0, .string { data := #[] }, .int .u64 0] 34)).alloc (.cells #[.int .i64 4, .slice (some ⟨w.heap.size, 0, none⟩) 1 1, .int .i64 2, .int .i64 3, .int .i64 1, .slice (some ⟨w.heap.size + 1, 0, none⟩) 1 1] 46)) := bnew (bnew (bnew (Below.refl _ _) _) _) _
  generalize ((w.alloc (.cells #[.int .i64 2] 3)).alloc (.cells #[.int .i64 3, .bool true, .int .i64 0, .int .i64 0, .int .i64 0, .int .u64 0, .int .i64 0, .string { data := #[] }, .int .u64 0] 34)).alloc (.cells #[.int .i64 4, .slice (some ⟨w.heap.size, 0, none⟩) 1 1, .int .i64 2, .int .i64 3, .int .i64 1, .slice (some ⟨w.heap.size + 1, 0, none⟩) 1 1] 46) = w3 at hI hE hS hB ⊢
  have HB3 := Lib.hid hB
  obtain ⟨q, hq⟩ : ∃ q, w.heap.size = q := ⟨_, rfl⟩
  rw [hq] at hI hE hS ⊢
  have HQ := Lib.hid hq
  have HE3 := Lib.hid hE
  have HS3 := Lib.hid hS
  have hp := sput_ok ((4 : Nat) : Int) (some ⟨q, 0, none⟩) 1 1 ((2 : Nat) : Int) ((3 : Nat) : Int) ((1 : Nat) : Int) (some ⟨q + 1, 0, none⟩) 1 1 (toInts [2]) [en1] w3 hI hE conf1 (by
    rw [List.all_eq_true]; intro e he; simp at he; subst he; exact (enok_clean en1_ok).2.1) (by omega) (by decide) (by rw [put1]; decide)
  rw [put1] at hp
  have HP := Lib.hid hp
  obtain ⟨c0, c1, c2, c3, c4, c5⟩ := script_cells hS
  clear hI hE hS hB hq hp
  go_wp2_with fail
  refine HP.out.mono ?_; rintro r w4 ⟨v, rfl, hown, hb4⟩
  obtain ⟨A4, n4, k4, hv⟩ := own_slice hown
  subst hv
  obtain ⟨hbs, hat⟩ := own_bsat hown (by decide)
  have HBS := Lib.hid hbs
  have hn4 : n4 = 8 := hbs.1.symm
  have HRD := Lib.hid (read_calls A4 n4 k4 [4, 1, 2, 2, 3, 1, 1, 7] w4 hbs (fun _ => hat) (by omega))
  have HB4 := Lib.hid (bseq HB3.out hb4)
  have HS4 := Lib.hid (HS3.out.chg (chg_of_below (fun _ => False) hb4) (fun h => h))
  have HE4 := Lib.hid (HE3.out.below hb4)
  clear hown hbs hat hn4 hb4 c0 c1 c2 c3 c4 c5 HP
  go_wp2_with fail
  refine HRD.out.mono ?_; rintro r w5 hpost
  unfold ReadPost at hpost
  obtain ⟨_, hyes, hb5⟩ := hpost
  obtain ⟨A5, n5, k5, E5, m5, j5, hr5, _, hen⟩ := hyes read1.1
  rw [read1.2.2.2] at hen
  have hen := hen (by intro e he; simp at he; subst he; exact ⟨Nat.zero_lt_succ _, Nat.zero_lt_succ _⟩)
  obtain ⟨x0, hx0⟩ : ∃ x : Int, ((rdA [4, 1, 2, 2, 3, 1, 1, 7]).1 : Int) = x := ⟨_, rfl⟩
  obtain ⟨x1, hx1⟩ : ∃ x : Int, ((rdW [4, 1, 2, 2, 3, 1, 1, 7]).1 : Int) = x := ⟨_, rfl⟩
  obtain ⟨x2, hx2⟩ : ∃ x : Int, ((rdB [4, 1, 2, 2, 3, 1, 1, 7]).1 : Int) = x := ⟨_, rfl⟩
  obtain ⟨x3, hx3⟩ : ∃ x : Int, ((rdS [4, 1, 2, 2, 3, 1, 1, 7]).1 : Int) = x := ⟨_, rfl⟩
  rw [hx0, hx1, hx2, hx3] at hr5
  unfold scriptV at hr5
  subst hr5
  obtain rfl : m5 = 1 := hen.1.symm
  have HEN := Lib.hid hen
  have HB5 := Lib.hid hb5
  clear hyes hen hb5 hx0 hx1 hx2 hx3
  go_upto_region 4 with fail
  clear hen
  have HB6 := Lib.hid (bseq HB4.out (bnew HB5.out (.cells #[.int .i64 x0, .slice A5 n5 k5, .int .i64 x1, .int .i64 x2, .int .i64 x3, .slice E5 1 j5] 46)))
  have hb56 : Below w4.heap.size w4 (w5.alloc (.cells #[.int .i64 x0, .slice A5 n5 k5, .int .i64 x1, .int .i64 x2, .int .i64 x3, .slice E5 1 j5] 46)) := bnew HB5.out _
  have d5 : (w5.alloc (.cells #[.int .i64 x0, .slice A5 n5 k5, .int .i64 x1, .int .i64 x2, .int .i64 x3, .slice E5 1 j5] 46)).cell? ⟨w5.heap.size, 5, none⟩ = some (.slice E5 1 j5) := (Blk.new w5 46 [.int .i64 x0, .slice A5 n5 k5, .int .i64 x1, .int .i64 x2, .int .i64 x3, .slice E5 1 j5]).cell 5
  have s5 := (script_cells (HS4.out.chg (chg_of_below (fun _ => False) hb56) (fun h => h))).2.2.2.2.2
  obtain ⟨b6, off6, e6, g0, g1, g2, g3, g4, g5, g6, g7, g8⟩ := (HEN.out.below (bnew (Below.refl _ w5) (.cells #[.int .i64 x0, .slice A5 n5 k5, .int .i64 x1, .int .i64 x2, .int .i64 x3, .slice E5 1 j5] 46))).cells (k := 0) (by omega) (e := en1) rfl
  subst e6
  obtain ⟨b7, off7, e7, h0, h1, h2, h3, h4, h5, h6, h7, h8⟩ := (HE4.out.below hb56).cells (k := 0) (by omega) (e := en1) rfl
  injection e7 with e7
  injection e7 with e7 e8
  subst e7 e8
  have hstr : strOf [4, 1, 2, 2, 3, 1, 1, 7] = { data := #[4, 1, 2, 2, 3, 1, 1, 7] } := by rfl
  have hb6 := HBS.out.below hb56
  have hconv := fun n : Nat => bs_string (hb6.drewN n)
  rw [hstr] at hconv
  simp only [en1, enZero, Nat.zero_mul, Nat.add_zero, Nat.zero_add] at g0 g1 g2 g3 g4 g5 g6 g7 g8 h0 h1 h2 h3 h4 h5 h6 h7 h8
  have heq := eq_entry
  clear hb56 hstr hb6
  generalize w5.alloc (.cells #[.int .i64 x0, .slice A5 n5 k5, .int .i64 x1, .int .i64 x2, .int .i64 x3, .slice (some ⟨b6, off6, none⟩) 1 j5] 46) = w6 at d5 s5 g0 g1 g2 g3 g4 g5 g6 g7 g8 h0 h1 h2 h3 h4 h5 h6 h7 h8 hconv HB6 ⊢
  generalize w5.heap.size = q6 at d5 ⊢
  go_quiet (fail)
  clear d5 s5 g0 g1 g2 g3 g4 g5 g6 g7 g8 h0 h1 h2 h3 h4 h5 h6 h7 h8 hconv heq
  go_wp2
  go_ret
  exact ⟨rfl, HB6.out.os, HB6.out.tape, HB6.out.output, HB6.out.size, HB6.out.block⟩
end Go.Proofs.Ytgfingdopelinaa
