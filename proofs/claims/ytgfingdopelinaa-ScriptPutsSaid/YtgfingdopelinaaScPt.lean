/- the reference's bytes: PutNumber on lists, an entry's. -/
import Derived.Test.YtgfingdopelinaaScB
import Derived.Test.YtgfingdopelinaaScG
import Derived.Test.YtgfingdopelinaaScL
import Derived.Test.YtgfingdopelinaaScBp
namespace Go.Proofs.Ytgfingdopelinaa
set_option linter.unusedSimpArgs false
set_option linter.unusedVariables false
open Go.RowKit Go.Deep

def u64N (z : Int) : Nat := (z % 18446744073709551616).toNat
theorem wrap_u64 (z : Int) : IntKind.u64.wrap z = ((u64N z : Nat) : Int) := by
  have e : ((u64N z : Nat) : Int) = z % 18446744073709551616 := by unfold u64N; omega
  rw [e]
  rfl
theorem u64N_lt (z : Int) : u64N z < 18446744073709551616 := by unfold u64N; omega
theorem u64N_nat (n : Nat) (h : n < 18446744073709551616) : u64N (n : Int) = n := by unfold u64N; omega
/-- bytes, not too many. -/
def BL (k : Nat) (L : List Nat) : Prop := (∀ x ∈ L, x < 256) ∧ L.length ≤ k
theorem BL.nil : BL 0 [] := ⟨by simp, by simp⟩
theorem BL.app {k j : Nat} {L M : List Nat} (h : BL k L) (h2 : BL j M) : BL (k + j) (L ++ M) :=
  ⟨fun x hx => (List.mem_append.1 hx).elim (h.1 x) (h2.1 x), by rw [List.length_append]; have := h.2; have := h2.2; omega⟩
theorem BL.num {x : Nat} (h : x < 18446744073709551616) : BL 10 (putN x) := ⟨putN_lt x, putN_len10 x h⟩
theorem BL.put {k x : Nat} {L : List Nat} (h : BL k L) (hx : x < 18446744073709551616) : BL (k + 10) (L ++ putN x) := h.app (BL.num hx)
theorem BL.mono {k j : Nat} {L : List Nat} (h : BL k L) (hk : k ≤ j) : BL j L := ⟨h.1, Nat.le_trans h.2 hk⟩
theorem rp_calls {k : Nat} {L : List Nat} (x : Nat) (w : World) (h : BL k L) (hx : x < 18446744073709551616) (hk : k ≤ 1000000) :
    Calls Try.prog 8 #[.string (strOf L), .int .u64 x] w fun e w' => e = .returned (.string (strOf (L ++ putN x))) ∧ Below w.heap.size w w' := by
  have h1 := refPutNumber_calls (strOf L) x w hx (by have h2 := congrArg List.length (bytesOf_strOf L h.1); rw [bytesOf_len] at h2; have := h.2; omega)
  rw [bytesOf_strOf L h.1] at h1
  exact h1
/-- the reference's bytes of an entry. -/
def rput (th : Nat) (pk : Bool) (n0 n1 n2 n3 n4 n5 : Nat) (tx : ByteArray) : List Nat :=
  if pk then putN (2 * th + 1)
  else putN (2 * th) ++ putN n0 ++ putN n1 ++
    (if n0 = 0 then putN n4 ++ putN tx.size ++ bytesOf tx else (if 2 ≤ n0 then putN n2 ++ putN n3 else []) ++ (if n0 = 4 then putN n5 else []))
theorem rput_eq {e : En} (h : e.rightB = true) : rput e.thread.toNat e.pick (u64N e.kind) (u64N e.topic) (u64N e.gk) e.gen (u64N e.mode) e.pos e.text = putE e.clean := by
  unfold En.rightB callB at h
  simp only [Bool.and_eq_true, Bool.or_eq_true, inB_true, decide_eq_true_eq] at h
  obtain ⟨ht, hc⟩ := h
  obtain ⟨a, ha⟩ : ∃ a : Nat, e.thread = a := ⟨e.thread.toNat, by omega⟩
  unfold En.clean at hc ⊢
  have e2 : (2 * (a : Int)).toNat = 2 * a := by omega
  rw [ha]
  by_cases hpk : e.pick = true
  · rw [if_pos hpk]
    unfold rput putE
    rw [if_pos hpk, if_pos rfl, putL1]
    first | done | rfl
  · have hc := hc.resolve_left hpk
    rw [if_neg hpk] at hc ⊢
    have hpf : e.pick = false := by simpa using hpk
    by_cases h0 : e.kind = 0
    · rw [if_pos h0] at hc ⊢
      dsimp only at hc
      obtain ⟨tp, htp⟩ : ∃ a : Nat, e.topic = a := ⟨e.topic.toNat, by omega⟩
      obtain ⟨md, hmd⟩ : ∃ a : Nat, e.mode = a := ⟨e.mode.toNat, by omega⟩
      have u0 : u64N e.kind = 0 := by rw [h0]; rfl
      have u1 : u64N e.topic = tp := by rw [htp]; exact u64N_nat tp (by omega)
      have u2 : u64N e.mode = md := by rw [hmd]; exact u64N_nat md (by omega)
      rw [u0, u1, u2, h0, htp, hmd]
      unfold rput putE
      simp [enZero, hpf, putL_cons, putL_nil]
    · rw [if_neg h0] at hc ⊢
      by_cases h4 : e.kind = 4
      · rw [if_pos h4] at hc ⊢
        dsimp only at hc
        obtain ⟨tp, htp⟩ : ∃ a : Nat, e.topic = a := ⟨e.topic.toNat, by omega⟩
        obtain ⟨gk, hgk⟩ : ∃ a : Nat, e.gk = a := ⟨e.gk.toNat, by omega⟩
        have u0 : u64N e.kind = 4 := by rw [h4]; rfl
        have u1 : u64N e.topic = tp := by rw [htp]; exact u64N_nat tp (by omega)
        have u2 : u64N e.gk = gk := by rw [hgk]; exact u64N_nat gk (by omega)
        rw [u0, u1, u2, h4, htp, hgk]
        unfold rput putE
        simp [enZero, hpf, putL_cons, putL_nil]
      · rw [if_neg h4] at hc ⊢
        by_cases h23 : e.kind = 2 ∨ e.kind = 3
        · rw [if_pos h23] at hc ⊢
          dsimp only at hc
          obtain ⟨kd, hkd⟩ : ∃ a : Nat, e.kind = a := ⟨e.kind.toNat, by omega⟩
          obtain ⟨tp, htp⟩ : ∃ a : Nat, e.topic = a := ⟨e.topic.toNat, by omega⟩
          obtain ⟨gk, hgk⟩ : ∃ a : Nat, e.gk = a := ⟨e.gk.toNat, by omega⟩
          have hk2 : kd = 2 ∨ kd = 3 := by omega
          have u0 : u64N e.kind = kd := by rw [hkd]; exact u64N_nat kd (by omega)
          have u1 : u64N e.topic = tp := by rw [htp]; exact u64N_nat tp (by omega)
          have u2 : u64N e.gk = gk := by rw [hgk]; exact u64N_nat gk (by omega)
          rw [u0, u1, u2, hkd, htp, hgk]
          unfold rput putE
          rcases hk2 with rfl | rfl <;> simp [enZero, hpf, putL_cons, putL_nil]
        · rw [if_neg h23] at hc ⊢
          dsimp only at hc
          have h1 : e.kind = 1 := by omega
          obtain ⟨tp, htp⟩ : ∃ a : Nat, e.topic = a := ⟨e.topic.toNat, by omega⟩
          have u0 : u64N e.kind = 1 := by rw [h1]; rfl
          have u1 : u64N e.topic = tp := by rw [htp]; exact u64N_nat tp (by omega)
          rw [u0, u1, h1, htp]
          unfold rput putE
          simp [enZero, hpf, putL_cons, putL_nil]
end Go.Proofs.Ytgfingdopelinaa
