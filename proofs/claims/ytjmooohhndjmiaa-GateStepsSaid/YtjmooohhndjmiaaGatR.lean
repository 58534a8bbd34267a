/- run: an operation, alone. -/
import Derived.Test.YtjmooohhndjmiaaGatT
import Derived.Test.YtjmooohhndjmiaaGatI
import Derived.Deep.LoopGhost
namespace Go.Proofs.Ytjmooohhndjmiaa
open Go.RowKit Go.Deep
set_option linter.unusedVariables false
set_option linter.unusedSimpArgs false

/-- so many steps. -/
def giter (A M C : Nat) : Nat → GOp × List Nat → GOp × List Nat
  | 0, s => s
  | j + 1, s => gstep A M C (giter A M C j s).1 (giter A M C j s).2
theorem gstep_len (A M C : Nat) (o : GOp) (ws : List Nat) : (gstep A M C o ws).2.length = ws.length := by
  unfold gstep
  repeat' split
  all_goals simp
set_option maxHeartbeats 4000000 in
set_option maxRecDepth 100000 in
theorem grun_calls (b bw bb bo A M C : Nat) (o : GOp) (ws : List Nat) (w : World) (N : Nat) (hb : Blk w bo 88 (o.cells A M C)) (hm : MemAt w b bw bb ws) (hg : GOk A M C) (hi : GIn M o) (hl : A + 1 + M ≤ ws.length ∧ C < ws.length) (hn : bo ≠ b ∧ bo ≠ bw ∧ bo ≠ bb)
    (hN : N ≤ 39) (hlt : ∀ j, j < N → (giter A M C j (o, ws)).1.pc ≠ 6) (hend : (giter A M C N (o, ws)).1.pc = 6) :
    Calls Try.prog 17 #[.pointer (some ⟨b, 0, none⟩), .pointer (some ⟨bo, 0, none⟩)] w fun e w' => e = .returned (.tuple #[.int .i64 ((giter A M C N (o, ws)).1.code : Nat), .int .u64 ((giter A M C N (o, ws)).1.v : Nat), .int .i64 (N : Nat)]) ∧ Blk w' bo 88 ((giter A M C N (o, ws)).1.cells A M C) ∧ MemAt w' b bw bb (giter A M C N (o, ws)).2 ∧ Chg (fun j => j = b ∨ j = bw ∨ j = bo) w w' := by
  have HB := Lib.hid hb
  have HM := Lib.hid hm
  have HG := Lib.hid hg
  have HI := Lib.hid hi
  have HL := Lib.hid hl
  have HN := Lib.hid hn
  have HLT := Lib.hid hlt
  have HEND := Lib.hid hend
  clear hb hm hg hi hl hn hlt hend
  go_enter Try.func17, Try.ntmps17
  go_wp2_with fail
  go_loopg [7] N (fun g i wr => ∃ j : Nat, j ≤ N ∧ g = N - j ∧ i = .int .i64 j ∧ Hid (Blk wr bo 88 ((giter A M C j (o, ws)).1.cells A M C) ∧ MemAt wr b bw bb (giter A M C j (o, ws)).2 ∧ GIn M (giter A M C j (o, ws)).1 ∧ (giter A M C j (o, ws)).2.length = ws.length ∧ Chg (fun j => j = b ∨ j = bw ∨ j = bo) w wr))
  case atStart => exact ⟨0, Nat.zero_le _, rfl, rfl, Lib.hid ⟨HB.out, HM.out, HI.out, rfl, Chg.refl _ _⟩⟩
  case round =>
    obtain ⟨j, hj, rfl, rfl, HR⟩ := hrel
    have i40 : (j : Int) < 40 := by omega
    by_cases hlt : j < N
    · have hd := gdone_calls bo A M C _ _ _ _ _ _ wr HR.out.1
      rw [show decide ((giter A M C j (o, ws)).1.pc = 6) = false by simp [HLT.out j hlt]] at hd
      have HD := Lib.hid hd
      have hs := gop_step b bw bb bo A M C (giter A M C j (o, ws)).1 (giter A M C j (o, ws)).2 wr HR.out.1 HR.out.2.1 HG.out HR.out.2.2.1 (by rw [HR.out.2.2.2.1]; exact HL.out) HN.out
      have HS := Lib.hid hs
      clear hd hs
      go_wp2_with fail
      refine HD.out.mono ?_; rintro e w' ⟨rfl, rfl⟩
      go_wp2_with fail
      refine HS.out.mono ?_; rintro e w2 ⟨rfl, h1, h2, h3⟩
      have HR2 : Hid (Blk w2 bo 88 ((giter A M C (j + 1) (o, ws)).1.cells A M C) ∧ MemAt w2 b bw bb (giter A M C (j + 1) (o, ws)).2 ∧ GIn M (giter A M C (j + 1) (o, ws)).1 ∧ (giter A M C (j + 1) (o, ws)).2.length = ws.length ∧ Chg (fun j => j = b ∨ j = bw ∨ j = bo) w w2) :=
        Lib.hid ⟨h1, h2, gin_step HR.out.2.2.1 (fun i => HR.out.2.1.getD_lt i), (gstep_len A M C _ _).trans HR.out.2.2.2.1, HR.out.2.2.2.2.trans h3 (fun _ _ h => h)⟩
      clear h1 h2 h3 HS HD
      go_wp2
      go_roundg (N - (j + 1))
      case measure => omega
      case rel => exact ⟨j + 1, by omega, rfl, by go_num, HR2⟩
    · obtain rfl : N = j := by omega
      have hd := gdone_calls bo A M C _ _ _ _ _ _ wr HR.out.1
      rw [show decide ((giter A M C N (o, ws)).1.pc = 6) = true by simp [HEND.out]] at hd
      have HD := Lib.hid hd
      have hr := gresult_calls bo A M C _ _ _ _ _ _ wr HR.out.1
      rw [if_pos HEND.out, if_pos HEND.out] at hr
      have HQ := Lib.hid hr
      clear hd hr hlt
      go_wp2_with fail
      refine HD.out.mono ?_; rintro e w' ⟨rfl, rfl⟩
      go_wp2_with fail
      refine HQ.out.mono ?_; rintro e w2 ⟨rfl, hb2⟩
      have HF := Lib.hid (And.intro (HR.out.1.chg (chg_of_below (fun _ => False) hb2) (fun h => h)) (And.intro (HR.out.2.1.below hb2) (HR.out.2.2.2.2.trans (chg_of_below (fun j => j = b ∨ j = bw ∨ j = bo) hb2) (fun _ _ h => h))))
      clear hb2
      go_wp2
      refine bodyPost_ret (v := .tuple #[.int .i64 ((giter A M C N (o, ws)).1.code : Nat), .int .u64 ((giter A M C N (o, ws)).1.v : Nat), .int .i64 (N : Nat)]) (by simp [results, Try.results17, go_sem]) rfl ⟨rfl, HF.out⟩
end Go.Proofs.Ytjmooohhndjmiaa
