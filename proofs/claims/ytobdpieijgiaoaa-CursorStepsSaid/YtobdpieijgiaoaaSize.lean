/- Size. -/
import Derived.Test.YtobdpieijgiaoaaMisc
namespace Go.Proofs.Ytobdpieijgiaoaa
open Go.RowKit Go.Deep
def sizeN (n : Int) : Nat := 2 ^ (n % 4).toNat
theorem sizeN_of (n : Int) : sizeN n = 1 ∨ sizeN n = 2 ∨ sizeN n = 4 ∨ sizeN n = 8 := by
  unfold sizeN
  have h : (n % 4).toNat = 0 ∨ (n % 4).toNat = 1 ∨ (n % 4).toNat = 2 ∨ (n % 4).toNat = 3 := by omega
  rcases h with h | h | h | h <;> rw [h] <;> simp
theorem size_calls (n : Int) (w : World) :
    Calls Try.prog 17 #[.int .i64 n] w fun e w' => e = .returned (.int .i64 (sizeN n : Nat)) ∧ w = w' := by
  have ha : bits .and .i64 n 3 = n % 4 := and3 n
  obtain ⟨r, hr⟩ : ∃ r : Nat, n % 4 = r := ⟨(n % 4).toNat, by omega⟩
  have hr4 : r = 0 ∨ r = 1 ∨ r = 2 ∨ r = 3 := by omega
  unfold sizeN
  rw [hr]
  rw [hr] at ha
  clear hr
  rcases hr4 with rfl | rfl | rfl | rfl
  all_goals
    go_enter Try.func17, Try.ntmps17
    go_wp2
    go_ret
    exact ⟨by rfl, rfl⟩
end Go.Proofs.Ytobdpieijgiaoaa
