/- contracts of the reference's numbers. -/
import Derived.Test.YtgfingdopelinaaScO
namespace Go.Proofs.Ytgfingdopelinaa
set_option linter.unusedSimpArgs false
set_option linter.unusedVariables false
open Go.RowKit Go.Deep

theorem strOf_app (a b : List Nat) : strOf a ++ strOf b = strOf (a ++ b) := by
  apply ByteArray.ext
  rw [ByteArray.data_append]
  unfold strOf
  simp
theorem bs_one (w : World) (x : Nat) (z : Int) (hz : z = (x : Int)) (hx : x < 256) : (convert 41 9 (.slice (some ⟨w.heap.size, 0, none⟩) 1 1)).run Try.prog (w.alloc (.cells #[.int .u8 z] 5)) = .ok (.string (strOf [x])) (w.alloc (.cells #[.int .u8 z] 5)) := by
  subst hz
  refine bs_string ⟨rfl, by omega, by omega, by simpa using hx, fun _ => ⟨_, 0, rfl, fun i hi => ?_⟩, fun e => by cases e⟩
  obtain rfl : i = 0 := by omega
  exact (Blk.new w 5 [.int .u8 (x : Nat)]).cell 0
set_option maxHeartbeats 2000000 in
theorem refPutNumber_calls (s : ByteArray) (x : Nat) (w : World) (hx : x < 18446744073709551616) (hs : s.size ≤ 1099511627776) :
    Calls Try.prog 8 #[.string s, .int .u64 x] w fun e w' => e = .returned (.string (strOf (bytesOf s ++ putN x))) ∧ Below w.heap.size w w' := by
  have HX := Lib.hid hx
  have HS := Lib.hid hs
  obtain ⟨cs0, hcs0⟩ : ∃ c, bytesOf s = c := ⟨_, rfl⟩
  have hss : s = strOf cs0 := by rw [← hcs0, strOf_bytesOf]
  have HL : Hid (cs0.length ≤ 1099511627776) := Lib.hid (by rw [← hcs0, bytesOf_len]; exact hs)
  rw [hcs0]
  subst hss
  clear hx hs hcs0 HS
  go_enter Try.func8, Try.ntmps8
  go_wp2_with fail
  go_loopg [0, 1] x (fun g v i wr => ∃ (y : Nat) (cs : List Nat), y = g ∧ y < 18446744073709551616 ∧ i = .int .u64 y ∧ v = .string (strOf cs) ∧ Hid (cs0 ++ putN x = cs ++ putN y) ∧ Hid (Below w.heap.size w wr))
  case atStart => exact ⟨x, cs0, rfl, HX.out, rfl, rfl, Lib.hid rfl, Lib.hid (Below.refl _ _)⟩
  case round =>
    obtain ⟨y, cs, rfl, hy, rfl, rfl, HE, HB⟩ := hrel
    have HY := Lib.hid hy
    have hcl : cs.length ≤ 1099511627776 + 10 := by
      have h1 := congrArg List.length HE.out
      have h2 := HL.out
      have h3 := putN_len10 x HX.out
      simp only [List.length_append] at h1
      omega
    have hl1 : ∀ z : Nat, (strOf cs).size + (strOf [z]).size ≤ 9223372036854775807 := fun z => by rw [strOf_len, strOf_len]; simp; omega
    by_cases h128 : y < 128
    · have t1 : decide ((128 : Int) ≤ (y : Int)) = false := by simp; omega
      have hc := bs_one wr y (y : Int) rfl (by omega)
      have hl := hl1 y
      clear hl1 hcl
      have hcat := strOf_app cs [y]
      have H128 := Lib.hid h128
      clear hy
      go_wp2
      go_ret
      exact ⟨by rw [HE.out, putN_small H128.out]; rfl, bnew HB.out _⟩
    · have t1 : decide ((128 : Int) ≤ (y : Int)) = true := by simp; omega
      have H128 := Lib.hid h128
      have hcat := strOf_app cs [y % 128 + 128]
      clear h128
      have hl := hl1 (y % 128 + 128)
      clear hl1 hcl
      have hc := bs_one wr (y % 128 + 128) ((y : Int) % 128 + 128) (by omega) (by omega)
      go_wp2
      go_roundg (y / 128)
      case measure => have := H128.out; omega
      case rel => exact ⟨y / 128, cs ++ [y % 128 + 128], rfl, by omega, by go_num, rfl, Lib.hid (by rw [HE.out, putN_big H128.out]; simp), Lib.hid (bnew HB.out _)⟩
end Go.Proofs.Ytgfingdopelinaa
