/- Setup of a gate over a memory of zeros. -/
import Derived.Test.YtjmooohhndjmiaaGatB
import Derived.Deep.LoopGhost
namespace Go.Proofs.Ytjmooohhndjmiaa
open Go.RowKit Go.Deep
set_option linter.unusedVariables false
set_option linter.unusedSimpArgs false

theorem set_zeros (n i : Nat) : (List.replicate n 0).set i 0 = List.replicate n 0 := by
  apply List.ext_getElem
  · simp
  · intro j h1 h2
    rw [List.getElem_set]
    split <;> simp
set_option maxHeartbeats 4000000 in
set_option maxRecDepth 100000 in
theorem gsetup_calls (A M C n b bw bb : Nat) (w : World) (hm : MemAt w b bw bb (List.replicate n 0)) (hg : GOk A M C) (ha : A + 1 + M ≤ n) (hc : C < n) :
    Calls Try.prog 8 #[.agg #[.int .i64 A, .int .i64 M, .int .i64 C], .pointer (some ⟨b, 0, none⟩)] w fun e w' => e = .returned (.int .i64 0) ∧ MemAt w' b bw bb (List.replicate n 0) ∧ Chg (fun k => k = b ∨ k = bw) w w' := by
  have HR : Hid (∀ W : World, Calls Try.prog 26 #[.agg #[.int .i64 A, .int .i64 M, .int .i64 C]] W fun e w' => e = .returned (.bool true) ∧ Below W.heap.size W w') := Lib.hid (fun W => (gright_calls A M C W hg).mono fun _ _ ⟨h1, h2⟩ => ⟨h1, by subst h2; exact bnew (Below.refl _ _) _⟩)
  have HWd := Lib.hid (fun W => gwords_calls A M C W hg)
  have hl : ∀ W (h : MemAt W b bw bb (List.replicate n 0)), Calls Try.prog 25 #[.pointer (some ⟨b, 0, none⟩)] W fun e w' => e = .returned (.int .i64 n) ∧ W = w' := fun W h => by
    have := len_calls b bw bb _ W h
    rw [List.length_replicate] at this
    exact this
  have HL := Lib.hid hl
  have hs : ∀ W (h : MemAt W b bw bb (List.replicate n 0)) (i : Nat), i < 1 + M → Calls Try.prog 10 #[.pointer (some ⟨b, 0, none⟩), .int .i64 (A + i : Nat), .int .u64 (0 : Nat)] W fun e w' => e = .returned (.tuple #[]) ∧ MemAt w' b bw bb (List.replicate n 0) ∧ Chg (fun k => k = b ∨ k = bw) W w' := fun W h i hi => by
    have := store_calls b bw bb _ (A + i) 0 W h (by rw [List.length_replicate]; omega) (by decide)
    rw [set_zeros] at this
    exact this
  have HSt := Lib.hid hs
  obtain ⟨W1, hW1⟩ : ∃ W1, W1 = w.alloc (.cells #[.int .i64 (A : Int), .int .i64 (M : Int), .int .i64 (C : Int)] 25) := ⟨_, rfl⟩
  have hm1 : MemAt W1 b bw bb (List.replicate n 0) := by rw [hW1]; exact hm.alloc _
  have hbx : Blk W1 w.heap.size 25 [.int .i64 (A : Int), .int .i64 (M : Int), .int .i64 (C : Int)] := by rw [hW1]; exact blk_new w _ _ _ rfl
  have hc1 : Chg (fun k => k = b ∨ k = bw) w W1 := by rw [hW1]; exact (Chg.refl _ _).alloc _
  obtain ⟨l1, l2, l3⟩ := hm.lt
  have hne : w.heap.size ≠ b ∧ w.heap.size ≠ bw := ⟨by omega, by omega⟩
  obtain ⟨g, hgg⟩ : ∃ g, w.heap.size = g := ⟨_, rfl⟩
  rw [hgg] at hbx hne
  have c0 : W1.cell? ⟨g, 0, none⟩ = some (.int .i64 A) := hbx.cell 0
  have c1 : W1.cell? ⟨g, 1, none⟩ = some (.int .i64 M) := hbx.cell 1
  have c2 : W1.cell? ⟨g, 2, none⟩ = some (.int .i64 C) := hbx.cell 2
  have HM1 := Lib.hid hm1
  have HC1 := Lib.hid hc1
  have HBX := Lib.hid hbx
  have HNE := Lib.hid hne
  have hn : n ≤ 65536 := by have := hm.most; rw [List.length_replicate] at this; exact this
  have hp0 : ((n : Int) == 0) = false := by rw [beq_eq_false_iff_ne]; omega
  have hm8 := hg.m8
  have hge' : decide (IntKind.i64.wrap ((n : Int) - (A : Int)) < ((1 + M : Nat) : Int)) = false := by rw [IntKind.wrap_i64]; simp; omega
  have hce : decide (n ≤ C) = false := by simp; omega
  have hAn : A ≤ n := by omega
  obtain ⟨K, hK⟩ : ∃ K, 1 + M = K := ⟨_, rfl⟩
  rw [hK] at hge' HSt HWd
  have hK9 : K ≤ 9 := by omega
  clear hm hm1 hc1 hbx hg ha hc hl hs hne l1 l2 l3 hm8 hK
  go_enter Try.func8, Try.ntmps8
  go_wp2_with fail
  rw [← hW1]
  clear hW1 hgg
  refine (HL.out W1 HM1.out).mono ?_; rintro e w' ⟨rfl, rfl⟩
  go_wp2_with fail
  have HL2 : Hid (∀ W : World, (W.cell? ⟨g, 0, none⟩ = some (.int .i64 A) ∧ W.cell? ⟨g, 1, none⟩ = some (.int .i64 M) ∧ W.cell? ⟨g, 2, none⟩ = some (.int .i64 C)) ∧ Hid (Below W1.heap.size W1 W) → Calls Try.prog 25 #[.pointer (some ⟨b, 0, none⟩)] W fun e w' => e = .returned (.int .i64 n) ∧ W = w') := Lib.hid (fun W h => HL.out W (HM1.out.below h.2.out))
  have HB0 : Hid (Below W1.heap.size W1 W1) := Lib.hid (Below.refl _ _)
  have keepS' : ∀ (W W' : World), ((W.cell? ⟨g, 0, none⟩ = some (.int .i64 A) ∧ W.cell? ⟨g, 1, none⟩ = some (.int .i64 M) ∧ W.cell? ⟨g, 2, none⟩ = some (.int .i64 C)) ∧ Hid (Below W1.heap.size W1 W)) → Below W.heap.size W W' → ((W'.cell? ⟨g, 0, none⟩ = some (.int .i64 A) ∧ W'.cell? ⟨g, 1, none⟩ = some (.int .i64 M) ∧ W'.cell? ⟨g, 2, none⟩ = some (.int .i64 C)) ∧ Hid (Below W1.heap.size W1 W')) := fun W W' h hb => ⟨⟨kcell hb h.1.1, kcell hb h.1.2.1, kcell hb h.1.2.2⟩, Lib.hid (bseq h.2.out hb)⟩
  have KS := Lib.hid keepS'
  clear keepS'
  go_region_held3 (fun w' => (w'.cell? ⟨g, 0, none⟩ = some (.int .i64 A) ∧ w'.cell? ⟨g, 1, none⟩ = some (.int .i64 M) ∧ w'.cell? ⟨g, 2, none⟩ = some (.int .i64 C)) ∧ Hid (Below W1.heap.size W1 w')) (first | exact ⟨⟨c0, c1, c2⟩, HB0.out.drew⟩ | exact KS.out _ _ (by assumption) (by assumption) | assumption) (first | (go_at_call 26; refine (HR.out _).mono ?_; rintro e w' ⟨rfl, hb⟩) | (go_at_call 27; refine (HWd.out _).mono ?_; rintro e w' ⟨rfl, hb⟩) | (go_at_call 25; refine (HL2.out _ (by assumption)).mono ?_; rintro e w' ⟨rfl, rfl⟩))
  rename_i hh
  obtain ⟨⟨d0, d1, d2⟩, HW⟩ := hh
  have HQ := Lib.hid (And.intro (HM1.out.below HW.out) (And.intro (HBX.out.chg (chg_of_below (fun _ => False) HW.out) (fun h => h)) (HC1.out.trans (chg_of_below (fun k => k = b ∨ k = bw) HW.out) (fun _ _ h => h))))
  clear HW HM1 HC1 HBX c0 c1 c2 HB0 KS HL2
  go_wp2_with fail
  refine (HWd.out _).mono ?_; rintro e w2 ⟨rfl, hb⟩
  have HQ2 := Lib.hid (And.intro (HQ.out.1.below hb) (And.intro (HQ.out.2.1.chg (chg_of_below (fun _ => False) hb) (fun h => h)) (HQ.out.2.2.trans (chg_of_below (fun k => k = b ∨ k = bw) hb) (fun _ _ h => h))))
  clear hb HQ d0 d1 d2
  go_wp2_with fail
  go_loopg [33] K (fun gg i wr => ∃ j : Nat, j ≤ K ∧ gg = K - j ∧ i = .int .i64 j ∧ Hid (MemAt wr b bw bb (List.replicate n 0) ∧ Blk wr g 25 [.int .i64 (A : Int), .int .i64 (M : Int), .int .i64 (C : Int)] ∧ Chg (fun k => k = b ∨ k = bw) w wr))
  case atStart => exact ⟨0, Nat.zero_le _, rfl, rfl, HQ2⟩
  case round =>
    obtain ⟨j, hj, rfl, rfl, HR⟩ := hrel
    clear HQ2
    have r0 := HR.out.2.1.cell 0
    by_cases hlt : j < K
    · have s1 : Hid (IntKind.i64.wrap ((A : Int) + (j : Int)) = ((A + j : Nat) : Int)) := Lib.hid (by rw [IntKind.wrap_i64]; omega)
      go_wp2_with fail
      refine (HSt.out _ HR.out.1 j hlt).mono ?_; rintro e w3 ⟨rfl, h1, h2⟩
      have HR2 := Lib.hid (And.intro h1 (And.intro (HR.out.2.1.chg h2 (fun h => by rcases h with h | h; exact HNE.out.1 h; exact HNE.out.2 h)) (HR.out.2.2.trans h2 (fun _ _ h => h))))
      clear h1 h2 HR
      go_wp2
      go_roundg (K - (j + 1))
      case measure => omega
      case rel => exact ⟨j + 1, by omega, rfl, by go_num, HR2⟩
    · obtain rfl : K = j := by omega
      go_wp2
      go_ret
      exact ⟨rfl, HR.out.1, HR.out.2.2⟩
end Go.Proofs.Ytjmooohhndjmiaa
