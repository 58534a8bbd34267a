/- contracts of word.Apart and word.Pack. -/
import Derived.Test.YtpalehomjgbacaaD
import Derived.Outline
namespace Go.Proofs.Ytpalehomjgbacaa
open Go.RowKit

def fA (l : List (List Int)) (i : Nat) : Int := (l.getD i []).getD 0 0
def fB (l : List (List Int)) (i : Nat) : Int := (l.getD i []).getD 1 0
/-- the mask of a field (0: of one that is not right). -/
def maskF (a n : Int) : Nat := if rightB a n then maskN a.toNat n.toNat else 0
/-- how the fields from the k-th on are found apart, where 'u' is used. m: how many are left. -/
def apartU (l : List (List Int)) : Nat → Nat → Nat → Bool
  | 0, _, _ => true
  | m + 1, k, u => rightB (fA l k) (fB l k) && (u &&& maskF (fA l k) (fB l k) == 0) && apartU l m (k + 1) (u ||| maskF (fA l k) (fB l k))

theorem field_cells {w : World} {A : Option Addr} {len cap : Nat} {l : List (List Int)} (h : RowsAt w [.i64, .i64] A len cap l) {k : Nat} (hk : k < len) :
    ∃ b off, A = some ⟨b, off, none⟩ ∧ w.cell? ⟨b, off + k * 2, none⟩ = some (.int .i64 (fA l k)) ∧ w.cell? ⟨b, off + k * 2 + 1, none⟩ = some (.int .i64 (fB l k)) ∧ (Lit.int .i64 (fA l k)).wf = true ∧ (Lit.int .i64 (fB l k)).wf = true := by
  obtain ⟨h1, h2, h3, h4, h5⟩ := h
  obtain ⟨b, off, e, hc⟩ := h5 (by omega)
  have hz := h4 (l.getD k []) (by simp [List.getD, show k < l.length by omega])
  have hc2 := hc k hk
  unfold fA fB
  generalize l.getD k [] = z at *
  match z, hz with
  | [z0, z1], hz =>
    exact ⟨b, off, e, hc2 0 _ rfl, by have := hc2 1 _ rfl; simpa [Nat.add_assoc] using this, hz.1, hz.2.1⟩
  | [], hz => exact absurd hz (by simp [KindsOk])
  | [_], hz => exact absurd hz.2 (by simp [KindsOk])
  | _ :: _ :: _ :: _, hz => exact absurd hz.2.2 (by simp [KindsOk])

theorem set_mask (a n : Int) : setF a n 0 (maxF a n) = maskF a n := by
  unfold setF maxF maskF
  cases hb : rightB a n with
  | true =>
    obtain ⟨h1, h2, h3, h4⟩ := (right_iff a n).1 hb
    simp only [if_true]
    apply Nat.eq_of_testBit_eq
    intro i
    rw [setN_bit _ _ _ _ _ (by decide) (by omega), mask_bit]
    by_cases c : a.toNat ≤ i ∧ i < a.toNat + n.toNat
    · rw [if_pos c, Nat.testBit_two_pow_sub_one]; simp [c]; omega
    · rw [if_neg c]; simp; omega
  | false => simp
theorem maskF_lt (a n : Int) : maskF a n < 18446744073709551616 := by
  rw [← set_mask]; exact setF_lt _ _ _ _ (by decide)

theorem keep2 {w W W' : World} {p : Nat} {u0 u1 : Value}
    (h : (W.cell? ⟨p, 0, none⟩ = some u0 ∧ W.cell? ⟨p, 1, none⟩ = some u1) ∧ Hid (Below w.heap.size w W))
    (hb : Below W.heap.size W W') :
    (W'.cell? ⟨p, 0, none⟩ = some u0 ∧ W'.cell? ⟨p, 1, none⟩ = some u1) ∧ Hid (Below w.heap.size w W') := by
  obtain ⟨⟨a1, a2⟩, hB⟩ := h
  exact ⟨⟨kcell hb a1, kcell hb a2⟩, bseq hB.out hb⟩
theorem right_b (a n : Int) (w : World) (b : Bool) (hb : rightB a n = b) : Calls Try.prog 12 #[.agg #[.int .i64 a, .int .i64 n]] w fun e w' => e = .returned (.bool b) ∧ Below w.heap.size w w' :=
  (right_calls a n w).mono fun _ _ ⟨h, h'⟩ => ⟨hb ▸ h, h' ▸ bnew (Below.refl _ _) _⟩
theorem max_b (a n : Int) (w : World) : Calls Try.prog 13 #[.agg #[.int .i64 a, .int .i64 n]] w fun e w' => e = .returned (.int .u64 (maxF a n : Nat)) ∧ Below w.heap.size w w' :=
  (max_calls a n w).mono fun _ _ ⟨h, h'⟩ => ⟨h, h' ▸ bnew (bnew (Below.refl _ _) _) _⟩
theorem mask_calls (a n : Int) (w : World) :
    Calls Try.prog 15 #[.agg #[.int .i64 a, .int .i64 n], .int .u64 0, .int .u64 (maxF a n : Nat)] w fun e w' => e = .returned (.int .u64 (maskF a n : Nat)) ∧ Below w.heap.size w w' := by
  have h := set_calls a n 0 (maxF a n) w (by decide)
  rw [set_mask] at h
  exact h

set_option maxHeartbeats 400000 in
theorem apart_calls (A : Option Addr) (len cap : Nat) (l : List (List Int)) (w : World) (hl : RowsAt w [.i64, .i64] A len cap l) :
    Calls Try.prog 18 #[.slice A len cap] w fun e w' => e = .returned (.bool (apartU l len 0 0)) ∧ Below w.heap.size w w' := by
  have hlen : len ≤ 9223372036854775807 := by have := hl.2.1; have := hl.2.2.1; omega
  have HL := Lib.hid hl
  clear hl
  go_enter Try.func18, Try.ntmps18
  go_wp2
  go_loopw [3, 9] (fun u i wr => ∃ k uu : Nat, k ≤ len ∧ i = .int .i64 k ∧ u = .int .u64 uu ∧ uu < 18446744073709551616 ∧ Hid (apartU l len 0 0 = apartU l (len - k) k uu) ∧ Hid (Below w.heap.size w wr)) (fun _ i _ => len - (intOf i).toNat)
  case atStart => exact ⟨0, 0, by omega, rfl, rfl, by decide, rfl, Below.refl _ _⟩
  case round =>
    obtain ⟨k, uu, hk, rfl, rfl, hu, HA, HB⟩ := hrel
    by_cases hlt : k < len
    · obtain ⟨b, off, rfl, hc0, hc1, hw0, hw1⟩ := field_cells (HL.out.below HB.out) hlt
      clear hw0 hw1
      obtain ⟨m, hm⟩ : ∃ m, len - k = m + 1 := ⟨len - k - 1, by omega⟩
      have HM := Lib.hid hm; clear hm
      obtain ⟨a, hfa⟩ : ∃ a, fA l k = a := ⟨_, rfl⟩
      obtain ⟨n, hfb⟩ : ∃ n, fB l k = n := ⟨_, rfl⟩
      rw [hfa] at hc0
      rw [hfb] at hc1
      have HFA := Lib.hid hfa; have HFB := Lib.hid hfb; clear hfa hfb
      go_wp2_with fail
      have hB0 : Below w.heap.size w (wr.alloc (.cells #[.int .i64 a, .int .i64 n] 23)) := bnew HB.out _
      have HB0 := Lib.hid hB0; clear hB0
      go_region_held3 (fun w' => (w'.cell? ⟨wr.heap.size, 0, none⟩ = some (.int .i64 a) ∧ w'.cell? ⟨wr.heap.size, 1, none⟩ = some (.int .i64 n)) ∧ Hid (Below w.heap.size w w')) (first | exact ⟨⟨by simp, by simp⟩, HB0.out.drew⟩ | exact keep2 (by assumption) (by assumption)) (first | (go_at_call 13; refine (max_b _ _ _).mono ?_; rintro e w' ⟨rfl, hb⟩) | (go_at_call 15; refine (mask_calls _ _ _).mono ?_; rintro e w' ⟨rfl, hb⟩))
      rename_i hh
      obtain ⟨⟨e0, e1⟩, HW⟩ := hh
      clear hc0 hc1 HB0 HB
      have HM1 : apartU l (len - k) k uu = (rightB a n && (uu &&& maskF a n == 0) && apartU l m (k + 1) (uu ||| maskF a n)) := by rw [HM.out, apartU, HFA.out, HFB.out]
      have HA2 := Lib.hid (HA.out.trans HM1)
      clear HM1
      have hMl := maskF_lt a n
      generalize maskF a n = M at *
      obtain ⟨g, hg⟩ : ∃ g, uu &&& M = g := ⟨_, rfl⟩
      obtain ⟨v, hv⟩ : ∃ v, uu ||| M = v := ⟨_, rfl⟩
      have hand : bits BinOp.and IntKind.u64 (uu : Int) (M : Int) = (g : Int) := by rw [← hg]; exact u64_and_nat uu M hu hMl
      have hor : bits BinOp.or IntKind.u64 (uu : Int) (M : Int) = (v : Int) := by rw [← hv]; exact u64_or_nat uu M hu hMl
      have hvl : v < 18446744073709551616 := by rw [← hv]; exact Nat.or_lt_two_pow (n := 64) hu hMl
      rw [hg, hv] at HA2
      clear hg hv hMl hu
      cases hr : rightB a n with
      | true =>
        have HR := Lib.hid hr; 
        rw [hr] at HA2
        clear hr
        by_cases hg0 : g = 0
        · subst hg0
          rw [show ((0 : Nat) : Int) = 0 from rfl] at hand
          go_wp2_with (first | (go_at_call 12; refine (right_b _ _ _ true HR.out).mono ?_; rintro e w2 ⟨rfl, hb2⟩))
          go_roundw
          case rel => exact ⟨k + 1, v, by omega, by go_num, rfl, hvl, by show _ = _; rw [HA2.out, show len - (k + 1) = m by have := HM.out; omega]; simp, bseq HW.out hb2⟩
          case measure => simp [intOf]; omega
        · have hgb : (((g : Nat) : Int) != 0) = true := by rw [bne_iff_ne]; omega
          go_wp2_with (first | (go_at_call 12; refine (right_b _ _ _ true HR.out).mono ?_; rintro e w2 ⟨rfl, hb2⟩))
          go_ret
          exact ⟨by rw [HA2.out]; simp [hg0], bseq HW.out hb2⟩
      | false =>
        have HR := Lib.hid hr; 
        rw [hr] at HA2
        clear hr
        go_wp2_with (first | (go_at_call 12; refine (right_b _ _ _ false HR.out).mono ?_; rintro e w2 ⟨rfl, hb2⟩))
        go_ret
        exact ⟨by rw [HA2.out]; rfl, bseq HW.out hb2⟩
    · have hkl : k = len := by omega
      have HE := Lib.hid (show apartU l len 0 0 = true by rw [HA.out, hkl, Nat.sub_self]; rfl)
      clear HA hkl
      go_wp2
      go_ret
      exact ⟨by rw [HE.out]; rfl, HB.out⟩

def vN (v : List (List Int)) (i : Nat) : Nat := ((v.getD i []).getD 0 0).toNat
theorem num_cell {w : World} {A : Option Addr} {len cap : Nat} {v : List (List Int)} (h : RowsAt w [.u64] A len cap v) {k : Nat} (hk : k < len) :
    ∃ b off, A = some ⟨b, off, none⟩ ∧ w.cell? ⟨b, off + k, none⟩ = some (.int .u64 (vN v k : Nat)) ∧ vN v k < 18446744073709551616 := by
  obtain ⟨h1, h2, h3, h4, h5⟩ := h
  obtain ⟨b, off, e, hc⟩ := h5 (by omega)
  have hz := h4 (v.getD k []) (by simp [List.getD, show k < v.length by omega])
  have hc2 := hc k hk
  unfold vN
  generalize v.getD k [] = z at *
  match z, hz with
  | [z0], hz =>
    have hw := hz.1
    simp only [Lit.wf, Bool.and_eq_true, decide_eq_true_eq] at hw
    have a1 : (0 : Int) ≤ z0 := hw.1
    have a2 : z0 ≤ 18446744073709551615 := hw.2
    refine ⟨b, off, e, ?_, ?_⟩
    · have := hc2 0 _ rfl
      simp only [List.getD_cons_zero, Int.toNat_of_nonneg a1]
      simpa using this
    · simp only [List.getD_cons_zero]; omega
  | [], hz => exact absurd hz (by simp [KindsOk])
  | _ :: _ :: _, hz => exact absurd hz.2 (by simp [KindsOk])

/-- numbers laid into fields from the k-th on, m of them. -/
def packU (l v : List (List Int)) : Nat → Nat → Nat → Nat
  | 0, _, x => x
  | m + 1, k, x => packU l v m (k + 1) (setF (fA l k) (fB l k) x (vN v k))
theorem keep3 {w W W' : World} {p q r : Addr} {u0 u1 u2 : Value}
    (h : (W.cell? p = some u0 ∧ W.cell? q = some u1 ∧ W.cell? r = some u2) ∧ Hid (Below w.heap.size w W))
    (hb : Below W.heap.size W W') :
    (W'.cell? p = some u0 ∧ W'.cell? q = some u1 ∧ W'.cell? r = some u2) ∧ Hid (Below w.heap.size w W') := by
  obtain ⟨⟨a1, a2, a3⟩, hB⟩ := h
  exact ⟨⟨kcell hb a1, kcell hb a2, kcell hb a3⟩, bseq hB.out hb⟩

set_option maxHeartbeats 400000 in
theorem pack_calls (A : Option Addr) (len cap : Nat) (l : List (List Int)) (A' : Option Addr) (len' cap' : Nat) (v : List (List Int)) (w : World) (hl : RowsAt w [.i64, .i64] A len cap l) (hv : RowsAt w [.u64] A' len' cap' v) :
    Calls Try.prog 23 #[.slice A len cap, .slice A' len' cap'] w fun e w' => e = .returned (.int .u64 (packU l v (min len len') 0 0 : Nat)) ∧ Below w.heap.size w w' := by
  have hlen : len ≤ 9223372036854775807 := by have := hl.2.1; have := hl.2.2.1; omega
  have hlen' : len' ≤ 9223372036854775807 := by have := hv.2.1; have := hv.2.2.1; omega
  obtain ⟨n, hn⟩ : ∃ n, min len len' = n := ⟨_, rfl⟩
  have hmin : min (len : Int) (len' : Int) = (n : Int) := by omega
  have hn1 : n ≤ len := by omega
  have hn2 : n ≤ len' := by omega
  rw [hn]
  have HL := Lib.hid hl
  have HV := Lib.hid hv
  clear hl hv hn
  go_enter Try.func23, Try.ntmps23
  go_wp2
  go_loopw [5, 12] (fun x i wr => ∃ k y : Nat, k ≤ n ∧ i = .int .i64 k ∧ x = .int .u64 y ∧ y < 18446744073709551616 ∧ Hid (packU l v n 0 0 = packU l v (n - k) k y) ∧ Hid (Below w.heap.size w wr)) (fun _ i _ => n - (intOf i).toNat)
  case atStart => exact ⟨0, 0, by omega, rfl, rfl, by decide, rfl, Below.refl _ _⟩
  case round =>
    obtain ⟨k, y, hk, rfl, rfl, hy, HA, HB⟩ := hrel
    by_cases hlt : k < n
    · obtain ⟨b, off, rfl, hc0, hc1, hw0, hw1⟩ := field_cells (HL.out.below HB.out) (show k < len by omega)
      obtain ⟨b', off', rfl, hc2, hw2⟩ := num_cell (HV.out.below HB.out) (show k < len' by omega)
      clear hw0 hw1
      obtain ⟨m, hm⟩ : ∃ m, n - k = m + 1 := ⟨n - k - 1, by omega⟩
      have HA2 := Lib.hid (show packU l v n 0 0 = packU l v m (k + 1) (setF (fA l k) (fB l k) y (vN v k)) by rw [HA.out, hm, packU])
      have HM := Lib.hid hm; clear hm HA
      have hlk : (k : Int) < (len : Int) := by omega
      have hlk' : (k : Int) < (len' : Int) := by omega
      have hk0 : (0 : Int) ≤ (k : Int) := by omega
      generalize fA l k = a at *
      generalize fB l k = c at *
      generalize vN v k = d at *
      go_wp2_with fail
      go_region_held3 (fun w' => (w'.cell? ⟨b, off + k * 2, none⟩ = some (.int .i64 a) ∧ w'.cell? ⟨b, off + k * 2 + 1, none⟩ = some (.int .i64 c) ∧ w'.cell? ⟨b', off' + k, none⟩ = some (.int .u64 (d : Nat))) ∧ Hid (Below w.heap.size w w')) (first | exact ⟨⟨hc0, hc1, hc2⟩, HB.out.drew⟩ | exact keep3 (by assumption) (by assumption)) (first | (go_at_call 15; refine (set_calls _ _ _ _ _ hy).mono ?_; rintro e w' ⟨rfl, hb⟩))
      rename_i hh
      have HW := hh.2
      have hs := setF_lt a c y d hy
      clear hh
      go_wp2
      go_roundw
      case rel => exact ⟨k + 1, _, by omega, by go_num, rfl, hs, by show _ = _; rw [HA2.out, show n - (k + 1) = m by have := HM.out; omega], HW⟩
      case measure => simp [intOf]; omega
    · have HE := Lib.hid (show packU l v n 0 0 = y by rw [HA.out, show n - k = 0 by omega]; rfl)
      clear HA
      go_wp2
      go_ret
      exact ⟨by rw [HE.out]; rfl, HB.out⟩
end Go.Proofs.Ytpalehomjgbacaa
