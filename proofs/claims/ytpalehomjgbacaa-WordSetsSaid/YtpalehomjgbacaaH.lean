/- contract of the reference's Apart. -/
import Derived.Test.YtpalehomjgbacaaG
namespace Go.Proofs.Ytpalehomjgbacaa
open Go.RowKit

def usedCells (u : Nat) : Array Value := ((List.range 64).map fun j => Value.bool (u.testBit j)).toArray
/-- the block of what is used. -/
def UsedAt (w : World) (g u : Nat) : Prop := w.heap[g]? = some (.cells (usedCells u) 49 (0, 0))

theorem used_cell {w : World} {g u j : Nat} (h : UsedAt w g u) (hj : j < 64) : w.cell? ⟨g, j, none⟩ = some (.bool (u.testBit j)) ∧ w.frozen? ⟨g, j, none⟩ = false := by
  unfold UsedAt at h
  constructor
  · simp [World.cell?, h, usedCells, hj]
  · simp [World.frozen?, h]
theorem used_new (w : World) (c : Array Value) (h : c = usedCells 0) : UsedAt (w.alloc (.cells c 49)) w.heap.size 0 := by
  subst h; show (w.heap.push _)[w.heap.size]? = _; simp
theorem used_below {w w' : World} {g u B : Nat} (h : UsedAt w g u) (hb : Below B w w') (hg : g < B) : UsedAt w' g u := (hb.block g hg).trans h
theorem used_store {w : World} {g u j : Nat} (h : UsedAt w g u) (_hj : j < 64) : UsedAt (w.setCell ⟨g, j, none⟩ (.bool true)) g (u ||| 2 ^ j) := by
  unfold UsedAt at *
  have hs : (usedCells u).setIfInBounds j (.bool true) = usedCells (u ||| 2 ^ j) := by
    apply Array.ext
    · simp [usedCells]
    · intro i h1 h2
      have hi : i < 64 := by simpa [usedCells] using h2
      simp only [usedCells]
      rw [Array.getElem_setIfInBounds]
      · by_cases e : j = i
        · subst e; simp [Nat.testBit_or, Nat.testBit_two_pow_self]
        · simp [e, Nat.testBit_or, Nat.testBit_two_pow]
          rw [List.getElem_toArray, List.getElem_map, List.getElem_range]
      · simpa using hi
  simp [World.setCell, Array.getElem?_modify, h, hs]
theorem bdrewN {B : Nat} {w W : World} (h : Below B w W) (n : Nat) : Below B w (W.drewN n) := ⟨h.os, h.tape, h.output, h.size, h.block⟩
theorem mask_succ (a t : Nat) : maskN a (t + 1) = maskN a t ||| 2 ^ (a + t) := by
  apply Nat.eq_of_testBit_eq
  intro i
  rw [Nat.testBit_or, mask_bit, mask_bit, Nat.testBit_two_pow, Bool.eq_iff_iff]
  simp; omega
theorem mask_zero (a : Nat) : maskN a 0 = 0 := by simp [maskN]
theorem or_test (u a t : Nat) : (u ||| maskN a t).testBit (a + t) = u.testBit (a + t) := by
  rw [Nat.testBit_or, mask_bit]; simp
theorem and_hit (u a t n : Nat) (ht : t < n) (h : u.testBit (a + t) = true) : ¬ u &&& maskN a n = 0 := by
  intro e
  have : (u &&& maskN a n).testBit (a + t) = false := by rw [e]; simp
  rw [Nat.testBit_and, mask_bit, h] at this
  simp at this; omega
theorem and_miss (u a t : Nat) (h0 : u &&& maskN a t = 0) (h : u.testBit (a + t) = false) : u &&& maskN a (t + 1) = 0 := by
  apply Nat.eq_of_testBit_eq
  intro i
  have h1 : (u &&& maskN a t).testBit i = false := by rw [h0]; simp
  rw [mask_succ, Nat.testBit_and, Nat.testBit_or]
  rw [Nat.testBit_and] at h1
  rw [Nat.testBit_two_pow]
  by_cases e : a + t = i
  · subst e; simp [h]
  · simp [e, h1]

theorem rright_b (a n : Int) (w : World) (b : Bool) (hb : rightB a n = b) : Calls Try.prog 10 #[.agg #[.int .i64 a, .int .i64 n]] w fun e w' => e = .returned (.bool b) ∧ Below w.heap.size w w' :=
  (rright_calls a n w).mono fun _ _ ⟨h, h'⟩ => ⟨hb ▸ h, h' ▸ bnew (Below.refl _ _) _⟩

set_option maxHeartbeats 400000 in
theorem rapart_calls (A : Option Addr) (len cap : Nat) (l : List (List Int)) (w : World) (hl : RowsAt w [.i64, .i64] A len cap l) :
    Calls Try.prog 22 #[.slice A len cap] w fun e w' => e = .returned (.bool (apartU l len 0 0)) ∧ Below w.heap.size w w' := by
  have hlen : len ≤ 9223372036854775807 := by have := hl.2.1; have := hl.2.2.1; omega
  have HL := Lib.hid hl
  clear hl
  go_enter Try.func22, Try.ntmps22
  go_wp2
  go_loopw [4, 5] (fun i j wr => ∃ k uu : Nat, k ≤ len ∧ i = .int .i64 k ∧ uu < 18446744073709551616 ∧ Hid (apartU l len 0 0 = apartU l (len - k) k uu) ∧ Hid (UsedAt wr w.heap.size uu) ∧ w.heap.size < wr.heap.size ∧ Hid (Below w.heap.size w wr)) (fun i _ _ => len - (intOf i).toNat)
  case atStart => exact ⟨0, 0, by omega, rfl, by decide, rfl, used_new w _ rfl, by simp, bnew (Below.refl _ _) _⟩
  case round =>
    obtain ⟨k, uu, hk, rfl, hu, HA, HU, hsz, HB⟩ := hrel
    by_cases hlt : k < len
    · obtain ⟨b, off, rfl, hc0, hc1, hw0, hw1⟩ := field_cells (HL.out.below HB.out) hlt
      clear hw0 hw1
      obtain ⟨m, hm⟩ : ∃ m, len - k = m + 1 := ⟨len - k - 1, by omega⟩
      have HM := Lib.hid hm; clear hm
      have hlk : (k : Int) < (len : Int) := by omega
      have hk0 : (0 : Int) ≤ (k : Int) := by omega
      obtain ⟨a, hfa⟩ : ∃ a, fA l k = a := ⟨_, rfl⟩
      obtain ⟨n, hfb⟩ : ∃ n, fB l k = n := ⟨_, rfl⟩
      have HM1 : apartU l (len - k) k uu = (rightB a n && (uu &&& maskF a n == 0) && apartU l m (k + 1) (uu ||| maskF a n)) := by rw [HM.out, apartU, hfa, hfb]
      have HA2 := Lib.hid (HA.out.trans HM1)
      clear HM1 HA
      have HFA := Lib.hid hfa
      have HFB := Lib.hid hfb
      rw [hfa] at hc0
      rw [hfb] at hc1
      clear hfa hfb
      cases hr : rightB a n with
      | false =>
        have HR := Lib.hid hr
        rw [hr] at HA2
        clear hr
        go_wp2_with (first | (go_at_call 10; refine (rright_b _ _ _ false HR.out).mono ?_; rintro e w2 ⟨rfl, hb2⟩))
        go_ret
        exact ⟨by rw [HA2.out]; rfl, bseq HB.out hb2⟩
      | true =>
        obtain ⟨h1, h2, h3, h4⟩ := (right_iff a n).1 hr
        obtain ⟨p, rfl⟩ := Int.eq_ofNat_of_zero_le h1
        obtain ⟨q, rfl⟩ := Int.eq_ofNat_of_zero_le (show 0 ≤ n by omega)
        have hmF : maskF (p : Int) (q : Int) = maskN p q := by simp only [maskF, hr, if_true, Int.toNat_natCast]
        have HR := Lib.hid hr
        rw [hr, hmF] at HA2
        clear hr hmF
        go_wp2_with fail
        refine (rright_b _ _ _ true HR.out).mono ?_; rintro e w2 ⟨rfl, hb2⟩
        have d0 : w2.cell? ⟨b, off + k * 2, none⟩ = some (.int .i64 p) := kcell hb2 hc0
        have d1 : w2.cell? ⟨b, off + k * 2 + 1, none⟩ = some (.int .i64 q) := kcell hb2 hc1
        have HU2 := Lib.hid (used_below HU.out hb2 hsz)
        have hsz2 : w.heap.size < w2.heap.size := by have := hb2.size; omega
        have HB2 := Lib.hid (bseq HB.out hb2)
        clear hc0 hc1 HU hsz HB hb2
        go_wp2_with fail
        go_loopw [5] (fun s wi => ∃ j : Nat, p ≤ j ∧ j ≤ p + q ∧ s = .int .i64 j ∧ Hid (UsedAt wi w.heap.size (uu ||| maskN p (j - p))) ∧ Hid (uu &&& maskN p (j - p) = 0) ∧ w.heap.size < wi.heap.size ∧ w2.heap.size ≤ wi.heap.size ∧ Hid (Below w.heap.size w wi)) (fun s _ => p + q - (intOf s).toNat)
        case atStart => exact ⟨p, by omega, by omega, rfl, by show UsedAt _ _ _; rw [Nat.sub_self, mask_zero, Nat.or_zero]; exact HU2.out, by show _ = _; rw [Nat.sub_self, mask_zero, Nat.and_zero], hsz2, Nat.le_refl _, HB2⟩
        case round =>
          obtain ⟨j, hj1, hj2, rfl, HU3, HZ, hsz3, hsz4, HB3⟩ := hrel
          obtain ⟨f0, f1⟩ : wr.cell? ⟨b, off + k * 2, none⟩ = some (.int .i64 p) ∧ wr.cell? ⟨b, off + k * 2 + 1, none⟩ = some (.int .i64 q) := by
            obtain ⟨b', off', e, g0, g1, _⟩ := field_cells (HL.out.below HB3.out) hlt
            cases e
            rw [HFA.out] at g0
            rw [HFB.out] at g1
            exact ⟨g0, g1⟩
          have hj0 : (0 : Int) ≤ (j : Int) := by omega
          clear d0 d1 HU2 hsz2 HB2
          by_cases hjq : j < p + q
          · have hj64 : j < 64 := by omega
            have hjl : (j : Int) < 64 := by omega
            have ej : p + (j - p) = j := by omega
            obtain ⟨c0, z0⟩ := used_cell HU3.out hj64
            have hot : (uu ||| maskN p (j - p)).testBit j = uu.testBit j := by have := or_test uu p (j - p); rwa [ej] at this
            rw [hot] at c0
            have HEJ := Lib.hid ej
            clear hot ej
            cases ht : uu.testBit j with
            | true =>
              rw [ht] at c0
              have hne := and_hit uu p (j - p) q (by omega) (by rw [HEJ.out]; exact ht)
              have HE := Lib.hid (show apartU l len 0 0 = false by rw [HA2.out]; simp [hne])
              clear hne ht HA2
              go_wp2_with fail
              go_quiet (fail)
              go_wp2
              go_ret
              exact ⟨by rw [HE.out]; rfl, bdrewN HB3.out _⟩
            | false =>
              rw [ht] at c0
              have HZ2 := Lib.hid (and_miss uu p (j - p) HZ.out (by rw [HEJ.out]; exact ht))
              have hst := used_store HU3.out hj64
              rw [Nat.or_assoc] at hst
              have hmk : maskN p (j - p) ||| 2 ^ j = maskN p (j + 1 - p) := by
                rw [show j + 1 - p = (j - p) + 1 by omega, mask_succ, HEJ.out]
              rw [hmk] at hst
              have HST := Lib.hid hst
              clear ht hst hmk
              go_wp2_with fail
              go_quiet (fail)
              go_wp2
              go_roundw
              case rel => exact ⟨j + 1, by omega, by omega, by go_num, HST.out, by show _ = _; rw [show j + 1 - p = (j - p) + 1 by omega]; exact HZ2.out, by simp; omega, by simp; omega, bdrewN (HB3.out.setCell (by simp) _) _⟩
              case measure => simp [intOf]; omega
          · have ejq : j - p = q := by omega
            have HZ3 := HZ.out
            have HU4 := HU3.out
            rw [ejq] at HZ3 HU4
            have HE := Lib.hid (show apartU l len 0 0 = apartU l m (k + 1) (uu ||| maskN p q) by rw [HA2.out, HZ3]; simp)
            have HU5 := Lib.hid HU4
            have hul : uu ||| maskN p q < 18446744073709551616 := Nat.or_lt_two_pow (n := 64) hu (maskN_lt p q (by omega))
            clear HZ3 HU4 ejq HA2
            go_wp2_with fail
            go_quiet (fail)
            go_wp2
            go_roundw
            case rel => exact ⟨k + 1, _, by omega, by go_num, hul, by show _ = _; rw [HE.out, show len - (k + 1) = m by have := HM.out; omega], HU5.out, by simp; omega, bdrewN HB3.out _⟩
            case measure => simp [intOf]; omega
    · have HE := Lib.hid (show apartU l len 0 0 = true by rw [HA.out, show len - k = 0 by omega]; rfl)
      clear HA
      go_wp2
      go_ret
      exact ⟨by rw [HE.out]; rfl, HB.out⟩
end Go.Proofs.Ytpalehomjgbacaa
