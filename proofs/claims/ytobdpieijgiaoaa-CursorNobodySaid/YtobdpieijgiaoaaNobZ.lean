/- CursorNobody: joined. -/
import Derived.Test.YtobdpieijgiaoaaNobA
import Derived.Test.YtobdpieijgiaoaaNobB
import Derived.Test.YtobdpieijgiaoaaNobC
import Derived.Test.YtobdpieijgiaoaaNobD
import Derived.Test.YtobdpieijgiaoaaNobE
namespace Go.Proofs.Ytobdpieijgiaoaa
open Go.RowKit Go.Deep

set_option maxHeartbeats 8000000 in
set_option maxRecDepth 100000 in
theorem nobody_core (A S M : Int) (x : Nat) (W : World) (r may fits : Bool) (hT : Tests A S r)
    (hmay : (r = false ∧ may = false) ∨ (r = true ∧ decide (1 ≤ M) = false ∧ may = false) ∨ (r = true ∧ decide (1 ≤ M) = true ∧ decide (M ≤ S) = may))
    (hfits : (r = false ∧ fits = false) ∨ (r = true ∧ decide (A < 4) = false ∧ fits = false) ∨ (r = true ∧ decide (A < 4) = true ∧ decide ((x : Int) < 4611686018427387904) = fits))
    (HCL : Hid (∀ w g, w.cell? ⟨g, 0, none⟩ = some (.int .i64 0) → Calls Try.prog 9 #[.agg #[.int .i64 A, .int .i64 S], .int .i64 M, .slice (some ⟨g, 0, none⟩) 1 1] w fun e w' => Begun w w' A S M [.int .i64 0] 1 may e))
    (HSU : Hid (∀ w b bw bb, MemAt w b bw bb [0, 0, 0, 0] → Calls Try.prog 10 #[.agg #[.int .i64 A, .int .i64 S], .pointer (some ⟨b, 0, none⟩), .int .u64 x] w fun e w' => e = .returned (.int .i64 (if fits then 0 else 2 : Nat)) ∧ (∃ ws, MemAt w' b bw bb ws) ∧ Chg (fun j => j = b ∨ j = bw) w w'))
    (HTE : Hid (∀ w, Calls Try.prog 15 #[.agg #[.int .i64 A, .int .i64 S]] w fun e w' => Begun w w' A S 0 [] 0 r e))
    (HRI : Hid (∀ w, Calls Try.prog 14 #[.agg #[.int .i64 A, .int .i64 S]] w fun e w' => e = .returned (.bool r) ∧ Below w.heap.size w w')) :
    Calls Try.prog 3 #[.agg #[.int .i64 A, .int .i64 S], .int .i64 M, .int .u64 x] W fun e w' => e = .returned (.bool true) ∧ Below W.heap.size W w' := by
  have hTT : (r = false ∧ may = false ∧ fits = false ∧ (decide (0 ≤ A) = false ∨ (decide (0 ≤ A) = true ∧ decide (A ≤ 65536) = false) ∨ (decide (0 ≤ A) = true ∧ decide (A ≤ 65536) = true ∧ decide (1 ≤ S) = false) ∨ (decide (0 ≤ A) = true ∧ decide (A ≤ 65536) = true ∧ decide (1 ≤ S) = true ∧ decide (S ≤ 1024) = false) ∨
      ((bits .and .i64 S (wrap64 (S - 1)) == 0) = false ∧ decide (0 ≤ A) = true ∧ decide (A ≤ 65536) = true ∧ decide (1 ≤ S) = true ∧ decide (S ≤ 1024) = true))) ∨
      (r = true ∧ ((bits .and .i64 S (wrap64 (S - 1)) == 0) = true ∧ decide (0 ≤ A) = true ∧ decide (A ≤ 65536) = true ∧ decide (1 ≤ S) = true ∧ decide (S ≤ 1024) = true) ∧
        ((decide (1 ≤ M) = false ∧ may = false) ∨ (decide (1 ≤ M) = true ∧ decide (M ≤ S) = false ∧ may = false) ∨ (decide (1 ≤ M) = true ∧ decide (M ≤ S) = true ∧ may = true)) ∧
        ((decide (A < 4) = false ∧ fits = false) ∨ (decide (A < 4) = true ∧ decide ((x : Int) < 4611686018427387904) = false ∧ fits = false) ∨ (decide (A < 4) = true ∧ decide ((x : Int) < 4611686018427387904) = true ∧ fits = true))) := by
    cases r
    · left
      refine ⟨rfl, ?_, ?_, ?_⟩
      · rcases hmay with ⟨_, h⟩ | ⟨h, _⟩ | ⟨h, _⟩
        · exact h
        · cases h
        · cases h
      · rcases hfits with ⟨_, h⟩ | ⟨h, _⟩ | ⟨h, _⟩
        · exact h
        · cases h
        · cases h
      · rcases hT with ⟨_, h⟩ | ⟨_, h⟩ | ⟨_, h⟩ | ⟨_, h⟩ | h
        · exact .inl h
        · exact .inr (.inl h)
        · exact .inr (.inr (.inl h))
        · exact .inr (.inr (.inr (.inl h)))
        · exact .inr (.inr (.inr (.inr h)))
    · right
      refine ⟨rfl, ?_, ?_, ?_⟩
      · rcases hT with ⟨h, _⟩ | ⟨h, _⟩ | ⟨h, _⟩ | ⟨h, _⟩ | h
        · cases h
        · cases h
        · cases h
        · cases h
        · exact h
      · rcases hmay with ⟨h, _⟩ | ⟨_, h⟩ | ⟨_, h, h'⟩
        · cases h
        · exact .inl h
        · cases may
          · exact .inr (.inl ⟨h, h', rfl⟩)
          · exact .inr (.inr ⟨h, h', rfl⟩)
      · rcases hfits with ⟨h, _⟩ | ⟨_, h⟩ | ⟨_, h, h'⟩
        · cases h
        · exact .inl h
        · cases fits
          · exact .inr (.inl ⟨h, h', rfl⟩)
          · exact .inr (.inr ⟨h, h', rfl⟩)
  clear hT hmay hfits
  rcases hTT with ⟨rfl, rfl, rfl, t0 | ⟨t0, t1⟩ | ⟨t0, t1, t2⟩ | ⟨t0, t1, t2, t3⟩ | ⟨tz, t0, t1, t2, t3⟩⟩ | ⟨rfl, ⟨tz, t0, t1, t2, t3⟩, ⟨u0, rfl⟩ | ⟨u0, u1, rfl⟩ | ⟨u0, u1, rfl⟩, ⟨v0, rfl⟩ | ⟨v0, v1, rfl⟩ | ⟨v0, v1, rfl⟩⟩
  · exact nob_0 A S M x W t0 HCL HSU HTE HRI
  · exact nob_1 A S M x W t0 t1 HCL HSU HTE HRI
  · exact nob_2 A S M x W t0 t1 t2 HCL HSU HTE HRI
  · exact nob_3 A S M x W t0 t1 t2 t3 HCL HSU HTE HRI
  · exact nob_4 A S M x W t0 t1 t2 t3 tz HCL HSU HTE HRI
  · exact nob_5 A S M x W t0 t1 t2 t3 tz u0 v0 HCL HSU HTE HRI
  · exact nob_6 A S M x W t0 t1 t2 t3 tz u0 v0 v1 HCL HSU HTE HRI
  · exact nob_7 A S M x W t0 t1 t2 t3 tz u0 v0 v1 HCL HSU HTE HRI
  · exact nob_8 A S M x W t0 t1 t2 t3 tz u0 u1 v0 HCL HSU HTE HRI
  · exact nob_9 A S M x W t0 t1 t2 t3 tz u0 u1 v0 v1 HCL HSU HTE HRI
  · exact nob_10 A S M x W t0 t1 t2 t3 tz u0 u1 v0 v1 HCL HSU HTE HRI
  · exact nob_11 A S M x W t0 t1 t2 t3 tz u0 u1 v0 HCL HSU HTE HRI
  · exact nob_12 A S M x W t0 t1 t2 t3 tz u0 u1 v0 v1 HCL HSU HTE HRI
  · exact nob_13 A S M x W t0 t1 t2 t3 tz u0 u1 v0 v1 HCL HSU HTE HRI
end Go.Proofs.Ytobdpieijgiaoaa
