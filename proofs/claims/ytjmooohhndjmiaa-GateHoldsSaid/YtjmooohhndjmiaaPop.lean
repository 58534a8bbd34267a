/- contracts: bits.OnesCount64 and word.Power. -/
import Derived.Test.YtjmooohhndjmiaaMem
import Derived.Test.YtjmooohhndjmiaaP
namespace Go.Proofs.Ytjmooohhndjmiaa
open Go.RowKit

theorem and_c (x c : Nat) (hx : x < 18446744073709551616) (hc : c < 18446744073709551616) : bits BinOp.and IntKind.u64 (x : Int) ((c : Nat) : Int) = ((x &&& c : Nat) : Int) := u64_and_nat x c hx hc
theorem wrap_small (k : Nat) (h : k < 18446744073709551616) : IntKind.u64.wrap (k : Int) = (k : Int) := by rw [wrap_nat, Nat.mod_eq_of_lt h]
theorem s1_int (x : Nat) (hx : x < 18446744073709551616) : IntKind.u64.wrap (bits BinOp.and IntKind.u64 ((x : Int) / 2) 6148914691236517205 + bits BinOp.and IntKind.u64 (x : Int) 6148914691236517205) = ((s1 x : Nat) : Int) := by
  have h := (s3_of x hx).2.1
  have e : (x : Int) / 2 = ((x / 2 : Nat) : Int) := by omega
  have e1 := and_c (x / 2) 6148914691236517205 (by omega) (by decide)
  have e2 := and_c x 6148914691236517205 (by omega) (by decide)
  rw [e]
  rw [show ((6148914691236517205 : Nat) : Int) = (6148914691236517205 : Int) from rfl] at e1 e2
  rw [e1, e2, ← Int.natCast_add]
  exact wrap_small _ h
theorem s2_int (x : Nat) (hx : x < 18446744073709551616) : IntKind.u64.wrap (bits BinOp.and IntKind.u64 ((s1 x : Int) / 4) 3689348814741910323 + bits BinOp.and IntKind.u64 (s1 x : Int) 3689348814741910323) = ((s2 (s1 x) : Nat) : Int) := by
  have h0 := (s3_of x hx).2.1
  have h := (s3_of x hx).2.2
  generalize s1 x = y at *
  have e : (y : Int) / 4 = ((y / 4 : Nat) : Int) := by omega
  have e1 := and_c (y / 4) 3689348814741910323 (by omega) (by decide)
  have e2 := and_c y 3689348814741910323 (by omega) (by decide)
  rw [e]
  rw [show ((3689348814741910323 : Nat) : Int) = (3689348814741910323 : Int) from rfl] at e1 e2
  rw [e1, e2, ← Int.natCast_add]
  exact wrap_small _ (by unfold s2 at h; omega)
theorem s3_int (y : Nat) (hy : y < 4919131752989213765) : bits BinOp.and IntKind.u64 (IntKind.u64.wrap ((y : Int) / 16 + (y : Int))) 1085102592571150095 = ((s3 y : Nat) : Int) := by
  have e : (y : Int) / 16 + (y : Int) = ((y / 16 + y : Nat) : Int) := by omega
  have e1 := and_c (y / 16 + y) 1085102592571150095 (by omega) (by decide)
  rw [e, wrap_small _ (by omega)]
  exact e1
theorem s4_int (y d : Nat) (hy : y + y / d < 18446744073709551616) : IntKind.u64.wrap ((y : Int) + (y : Int) / (d : Int)) = ((y + y / d : Nat) : Int) := by
  have e : (y : Int) + (y : Int) / (d : Int) = ((y + y / d : Nat) : Int) := by simp
  rw [e, wrap_small _ (by omega)]
theorem fin_int (y : Nat) (_hy : y < 4611686018427387904) : bits BinOp.and IntKind.i64 (wrap64 (y : Int)) 127 = ((y % 128 : Nat) : Int) := by
  rw [i64_and127]
  unfold wrap64
  omega

theorem ones64_calls (x : Nat) (w : World) (hx : x < 18446744073709551616) :
    Calls Try.prog 69 #[.int .u64 x] w fun e w' => e = .returned (.int .i64 (pop x : Nat)) ∧ w = w' := by
  have H := Lib.hid (show s6 (s5 (s4 (s3 (s2 (s1 x))))) % 128 = pop x ∧ s6 (s5 (s4 (s3 (s2 (s1 x))))) < 4611686018427387904 from pop_of x hx)
  have hf := pop_of x hx
  have E1 := Lib.hid (s1_int x hx)
  have E2 := Lib.hid (s2_int x hx)
  have E3 := Lib.hid (s3_int _ (s3_of x hx).2.2)
  have b5 : s5 (s4 (s3 (s2 (s1 x)))) < 4611686018427387904 := by have := hf.2; unfold s6 at this; omega
  have b4 : s4 (s3 (s2 (s1 x))) < 4611686018427387904 := by unfold s5 at b5; omega
  have E4 := Lib.hid (s4_int (s3 (s2 (s1 x))) 256 (by unfold s4 at b4; omega))
  have E5 := Lib.hid (s4_int (s4 (s3 (s2 (s1 x)))) 65536 (by unfold s5 at b5; omega))
  have E6 := Lib.hid (s4_int (s5 (s4 (s3 (s2 (s1 x))))) 4294967296 (by have := hf.2; unfold s6 at this; omega))
  have E7 := Lib.hid (fin_int _ hf.2)
  clear b5 b4 hf
  go_enter Try.func69, Try.ntmps69
  go_wp2
  go_ret
  refine ⟨?_, rfl⟩
  change Ending.returned (Value.int .i64 _) = _
  rw [E1.out, E2.out, E3.out]
  have e4 := E4.out
  have e5 := E5.out
  have e6 := E6.out
  rw [show ((256 : Nat) : Int) = 256 from rfl] at e4
  rw [show ((65536 : Nat) : Int) = 65536 from rfl] at e5
  rw [show ((4294967296 : Nat) : Int) = 4294967296 from rfl] at e6
  rw [e4]
  change Ending.returned (Value.int .i64 (bits BinOp.and IntKind.i64 (wrap64 (IntKind.u64.wrap (IntKind.u64.wrap ((s4 (s3 (s2 (s1 x))) : Int) + (s4 (s3 (s2 (s1 x))) : Int) / 65536) + IntKind.u64.wrap ((s4 (s3 (s2 (s1 x))) : Int) + (s4 (s3 (s2 (s1 x))) : Int) / 65536) / 4294967296))) 127)) = _
  rw [e5]
  change Ending.returned (Value.int .i64 (bits BinOp.and IntKind.i64 (wrap64 (IntKind.u64.wrap ((s5 (s4 (s3 (s2 (s1 x)))) : Int) + (s5 (s4 (s3 (s2 (s1 x)))) : Int) / 4294967296))) 127)) = _
  rw [e6]
  change Ending.returned (Value.int .i64 (bits BinOp.and IntKind.i64 (wrap64 ((s6 (s5 (s4 (s3 (s2 (s1 x))))) : Nat) : Int)) 127)) = _
  rw [E7.out, H.out.1]

theorem power_calls (x : Nat) (w : World) (hx : x < 18446744073709551616) :
    Calls Try.prog 68 #[.int .u64 x] w fun e w' => e = .returned (.bool (decide (pop x = 1))) ∧ w = w' := by
  go_enter Try.func68, Try.ntmps68
  go_wp2_with (first | (go_at_call 69; refine (ones64_calls _ _ hx).mono ?_; rintro e w' ⟨rfl, rfl⟩))
  go_ret
  exact ⟨congrArg (fun z => Ending.returned (.bool z)) (show ((pop x : Int) == 1) = decide (pop x = 1) by rw [Bool.eq_iff_iff]; simp; omega), rfl⟩

end Go.Proofs.Ytjmooohhndjmiaa
