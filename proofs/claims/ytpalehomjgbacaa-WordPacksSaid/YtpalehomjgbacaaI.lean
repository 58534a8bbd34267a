/- WordPacks: the walk. -/
import Derived.Test.YtpalehomjgbacaaH
import Derived.Maps.AppendAt
namespace Go.Proofs.Ytpalehomjgbacaa
open Go.RowKit

theorem vals_len : ∀ (ks : List IntKind) (z : List Int), KindsOk ks z → (valsOf ks z).length = ks.length
  | [], [], _ => rfl
  | k :: ks, z :: zs, h => by simp [valsOf, vals_len ks zs h.2]
  | [], _ :: _, h => absurd h (by simp [KindsOk])
  | _ :: _, [], h => absurd h (by simp [KindsOk])
theorem flat_get {k : Nat} (f : List Int → List Value) : ∀ (l : List (List Int)), (∀ z ∈ l, (f z).length = k) → ∀ i, i < l.length → ∀ j, j < k → (l.flatMap f)[i * k + j]? = (f (l.getD i []))[j]?
  | [], _, i, hi, _, _ => absurd hi (by simp)
  | z :: l, h, 0, _, j, hj => by
    have := h z (by simp)
    rw [List.flatMap_cons, Nat.zero_mul, Nat.zero_add, List.getElem?_append_left (by omega)]; rfl
  | z :: l, h, i + 1, hi, j, hj => by
    have hz := h z (by simp)
    have ih := flat_get f l (fun y hy => h y (by simp [hy])) i (by simpa using hi) j hj
    rw [List.flatMap_cons, List.getElem?_append_right (by rw [hz, Nat.succ_mul]; omega), hz, show (i + 1) * k + j - k = i * k + j by rw [Nat.succ_mul]; omega, ih]
    rfl
theorem flat_len {k : Nat} (f : List Int → List Value) : ∀ (l : List (List Int)), (∀ z ∈ l, (f z).length = k) → (l.flatMap f).length = l.length * k
  | [], _ => by simp
  | z :: l, h => by rw [List.flatMap_cons, List.length_append, h z (by simp), flat_len f l (fun y hy => h y (by simp [hy])), List.length_cons, Nat.succ_mul]; omega
/-- A row of the call's own reads as its list. -/
theorem own_rows {w : World} {base : Nat} {e : TypeId} {v : Value} {ks : List IntKind} (l : List (List Int)) (n : Nat) (hn : l.length = n) (hok : ∀ z ∈ l, KindsOk ks z) (h : w.ownsRow base e ks.length v n (l.flatMap (valsOf ks))) :
    ∃ A c, v = .slice A n c ∧ RowsAt w ks A n c l := by
  subst hn
  have hl : ∀ z ∈ l, (valsOf ks z).length = ks.length := fun z hz => vals_len ks z (hok z hz)
  rcases h.2 with ⟨rfl, hn⟩ | ⟨g, cap, cur, rfl, hb, hh, hc, hm, hs, ht⟩
  · obtain rfl : l = [] := List.eq_nil_of_length_eq_zero hn
    exact ⟨none, 0, rfl, rows_nil _ _⟩
  · refine ⟨_, cap, rfl, rfl, hc, by simpa [maxLen] using hm, hok, fun h0 => ⟨g, 0, rfl, fun i hi j u hu => ?_⟩⟩
    have hj : j < ks.length := by
      have := (List.getElem?_eq_some_iff.1 hu).1
      rw [hl _ (by simp [List.getD, hi])] at this
      exact this
    have hg := flat_get (valsOf ks) l hl i hi j hj
    rw [hu] at hg
    have := h.cells (g := g) rfl _ _ hg
    rw [add_none] at this
    exact this

theorem own_below {w w' : World} {base : Nat} {e : TypeId} {size n : Nat} {v : Value} {xs : List Value} (h : w.ownsRow base e size v n xs) (hb : Below w.heap.size w w') : w'.ownsRow base e size v n xs :=
  h.kept ⟨hb.os, hb.tape, hb.output, hb.size, fun i hi _ => hb.block i hi⟩ (row := none) (by cases v.ownBlock <;> simp)
theorem new_cells (w : World) (cs : List Value) (t : TypeId) : ∀ (j : Nat) (u : Value), cs[j]? = some u → (w.alloc (.cells cs.toArray t)).cell? ((⟨w.heap.size, 0, none⟩ : Addr).add j) = some u := by
  intro j u h
  rw [add_none, World.cell?_alloc_new]
  simpa using h
theorem Try.info25 : (Try.prog.info? 25).map (fun i => (i.zero, i.size, i.bytes)) = some (some (.agg #[.int .i64 0, .int .i64 0]), 2, 16) := by kernel_rfl
theorem take_row (l : List (List Int)) (k : Nat) (hk : k < l.length) (hok : ∀ z ∈ l, KindsOk [.i64, .i64] z) :
    (l.take (k + 1)).flatMap (valsOf [.i64, .i64]) = (l.take k).flatMap (valsOf [.i64, .i64]) ++ [.int .i64 (fA l k), .int .i64 (fB l k)] := by
  rw [List.take_succ_eq_append_getElem hk, List.flatMap_append, List.flatMap_singleton]
  congr 1
  have hz := hok l[k] (by simp)
  unfold fA fB
  rw [show l.getD k [] = l[k] by simp [List.getD, hk]]
  generalize l[k] = z at *
  match z, hz with
  | [z0, z1], hz => rfl
  | [], hz => exact absurd hz (by simp [KindsOk])
  | [_], hz => exact absurd hz.2 (by simp [KindsOk])
  | _ :: _ :: _ :: _, hz => exact absurd hz.2.2 (by simp [KindsOk])
theorem take_fA (l : List (List Int)) (k n : Nat) (hk : k < n) : fA (l.take n) k = fA l k ∧ fB (l.take n) k = fB l k := by
  unfold fA fB
  have : (l.take n).getD k [] = l.getD k [] := by simp [List.getD, hk]
  rw [this]; exact ⟨rfl, rfl⟩
theorem apart_take (l : List (List Int)) : ∀ m k u, k + m ≤ l.length → apartU (l.take l.length) m k u = apartU l m k u := by
  intro m k u _; rw [List.take_length]

set_option maxHeartbeats 1000000 in
theorem packs_calls (A : Option Addr) (len cap : Nat) (l : List (List Int)) (A' : Option Addr) (len' cap' : Nat) (v : List (List Int)) (w : World) (hl : RowsAt w [.i64, .i64] A len cap l) (hv : RowsAt w [.u64] A' len' cap' v) (h40 : len ≤ 40) (h80 : len' ≤ 80) :
    Calls Try.prog 6 #[.slice A len cap, .slice A' len' cap'] w fun e w' => e = .returned (.bool true) ∧ Below w.heap.size w w' := by
  have hlt : decide ((40 : Int) < (len : Int)) = false := by simp; omega
  have hlt' : decide ((80 : Int) < (len' : Int)) = false := by simp; omega
  obtain ⟨i0, hi, hz⟩ := Option.map_eq_some_iff.1 Try.info25
  simp only [Prod.mk.injEq] at hz
  obtain ⟨hz0, hz1, hz2⟩ := hz
  have HI := Lib.hid hi; have HZ0 := Lib.hid hz0; have HZ1 := Lib.hid hz1; have HZ2 := Lib.hid hz2
  have hll : l.length = len := hl.1
  have hok : ∀ z ∈ l, KindsOk [.i64, .i64] z := hl.2.2.2.1
  have HLL := Lib.hid hll; have HOK := Lib.hid hok
  have HL := Lib.hid hl; have HV := Lib.hid hv
  obtain ⟨n, hn⟩ : ∃ n, min len len' = n := ⟨_, rfl⟩
  have HN := Lib.hid hn
  clear hi hz0 hz1 hz2 hll hok hl hv hn
  go_enter Try.func6, Try.ntmps6
  go_wp2
  go_loopw [5, 6, 7] (fun r x i wr => ∃ k y : Nat, k ≤ len ∧ i = .int .i64 k ∧ x = .int .u64 y ∧ y < 18446744073709551616 ∧ Hid (packU l v n 0 0 = packU l v (n - k) k y) ∧ Hid (wr.ownsRow w.heap.size 25 2 r k ((l.take k).flatMap (valsOf [.i64, .i64]))) ∧ Hid (Below w.heap.size w wr)) (fun _ _ i _ => len - (intOf i).toNat)
  case atStart => exact ⟨0, 0, by omega, rfl, rfl, by decide, rfl, World.ownsRow_nil _ _ _ _, Below.refl _ _⟩
  case round =>
    obtain ⟨k, y, hk, rfl, rfl, hy, HA, HO, HB⟩ := hrel
    by_cases hkl : k < len
    · obtain ⟨b, off, rfl, hc0, hc1, hw0, hw1⟩ := field_cells (HL.out.below HB.out) hkl
      have hlk : (k : Int) < (len : Int) := by omega
      have hk0 : (0 : Int) ≤ (k : Int) := by omega
      have HT := Lib.hid (take_row l k (by rw [HLL.out]; exact hkl) HOK.out)
      have HF := Lib.hid (take_fA l k (k + 1) (by omega))
      have HPU := Lib.hid (show k < n → packU l v (n - k) k y = packU l v (n - (k + 1)) (k + 1) (setF (fA l k) (fB l k) y (vN v k)) by
        intro h; obtain ⟨m, hm⟩ : ∃ m, n - k = m + 1 := ⟨n - k - 1, by omega⟩
        rw [hm, packU, show n - (k + 1) = m by omega])
      obtain ⟨a, hfa⟩ : ∃ a, fA l k = a := ⟨_, rfl⟩
      obtain ⟨c, hfb⟩ : ∃ c, fB l k = c := ⟨_, rfl⟩
      rw [hfa, hfb] at HT HF HPU
      rw [hfa] at hc0 hw0
      rw [hfb] at hc1 hw1
      have HFA := Lib.hid hfa; have HFB := Lib.hid hfb
      have HW0 := Lib.hid hw0; have HW1 := Lib.hid hw1
      clear hfa hfb hw0 hw1
      go_wp2_with fail
      refine (own_calls _ _ _).mono ?_; rintro e w1 ⟨rfl, hb⟩
      have HO1 := Lib.hid (own_below HO.out hb)
      have HB1 := Lib.hid (bseq HB.out hb)
      clear hb hc0 hc1
      go_wp2_with (first | (at_builtin; (refine wpList_append_own_at _ rfl (.tmp 22) (.tmp 28) 40 rfl w.heap.size 25 i0 (.agg #[.int .i64 0, .int .i64 0]) 2 16 Try.underlying40 HI.out HZ0.out HZ1.out HZ2.out rfl (by decide) u5 k ((l.take k).flatMap (valsOf [.i64, .i64])) rfl (HO1.out.alloc _) ⟨w1.heap.size, 0, none⟩ 1 1 [.int .i64 a, .int .i64 c] rfl rfl ?c1 ?c2 ?c3 ?c4 ?c5 ?_)))
      case c1 => exact new_cells _ _ _
      case c2 => simp [Value.oneCell']
      case c3 => simp [maxLen]; omega
      case c4 => omega
      case c5 => have := HB1.out.size; simp; omega
      · intro v1 w2 hown1 hg1 _ _
        rw [← HT.out] at hown1
        have hl1 : (l.take (k + 1)).length = k + 1 := by rw [List.length_take, HLL.out]; omega
        have hok1 : ∀ z ∈ l.take (k + 1), KindsOk [.i64, .i64] z := fun z hz => HOK.out z (List.mem_of_mem_take hz)
        have hB2 : Below w.heap.size w w2 := (bnew HB1.out _).grown hg1 (by have := HB1.out.size; simp; omega) (fun g hg => (HO1.out.lt g hg).1)
        have HO2 := Lib.hid hown1
        have HB2 := Lib.hid hB2
        obtain ⟨A1, c1, rfl, hR1⟩ := own_rows (ks := [.i64, .i64]) _ _ hl1 hok1 hown1
        obtain ⟨b1, off1, rfl, f0, f1, _, _⟩ := field_cells hR1 (show k < k + 1 by omega)
        rw [HF.out.1] at f0
        rw [HF.out.2] at f1
        clear hg1 hown1 hB2 hR1 HO1 HB1 hok1 hl1
        have hkk : (k : Int) < (k : Int) + 1 := by omega
        by_cases hk2 : k < len'
        · obtain ⟨b2, off2, rfl, g0, hd⟩ := num_cell (HV.out.below HB2.out) hk2
          have hlk2 : (k : Int) < (len' : Int) := by omega
          have HP2 := Lib.hid (HPU.out (by have := HN.out; omega))
          have HY := Lib.hid (setF_lt a c y (vN v k) hy)
          generalize vN v k = d at *
          have HD := Lib.hid hd; clear hd
          go_wp2_with fail
          go_region_held3 (fun w' => (w'.cell? ⟨b1, off1 + k * 2, none⟩ = some (.int .i64 a) ∧ w'.cell? ⟨b1, off1 + k * 2 + 1, none⟩ = some (.int .i64 c) ∧ w'.cell? ⟨b2, off2 + k, none⟩ = some (.int .u64 (d : Nat))) ∧ Hid (Below w2.heap.size w2 w')) (first | exact ⟨⟨f0, f1, g0⟩, (Below.refl _ _).drew⟩ | exact keep3 (by assumption) (by assumption)) (first | (go_at_call 16; refine (rset_calls _ _ _ _ _ hy HD.out).mono ?_; rintro e w' ⟨rfl, hb⟩))
          rename_i hh
          have HW := hh.2
          clear hh hb
          go_wp2
          go_roundw
          case rel => exact ⟨k + 1, _, by omega, by go_num, rfl, HY.out, by show _ = _; rw [HA.out, HP2.out], own_below HO2.out HW.out, bseq HB2.out HW.out⟩
          case measure => simp [intOf]; omega
        · have hlk2 : ¬ (k : Int) < (len' : Int) := by omega
          have HP2 := Lib.hid (show packU l v (n - k) k y = packU l v (n - (k + 1)) (k + 1) y by
            have := HN.out
            rw [show n - k = 0 by omega, show n - (k + 1) = 0 by omega]; rfl)
          go_wp2
          go_roundw
          case rel => exact ⟨k + 1, _, by omega, by go_num, rfl, hy, by show _ = _; rw [HA.out, HP2.out], HO2.out, HB2.out⟩
          case measure => simp [intOf]; omega
    · have hke : k = len := by omega
      subst hke
      have hP : packU l v n 0 0 = y := by
        have := HN.out
        rw [HA.out, show n - k = 0 by omega]; rfl
      have hO := HO.out
      rw [List.take_of_length_le (by rw [HLL.out]; exact Nat.le_refl _)] at hO
      obtain ⟨A1, c1, rfl, hR1⟩ := own_rows (ks := [.i64, .i64]) _ k HLL.out HOK.out hO
      have HR1 := Lib.hid hR1
      rw [← HN.out] at hP
      have HP := Lib.hid hP
      clear hP hO hR1 HA HO
      go_wp2_with fail
      refine (apart_calls _ _ _ _ _ (HL.out.below HB.out)).mono ?_; rintro e w1 ⟨rfl, hb1⟩
      have HR2 := Lib.hid (HR1.out.below hb1)
      have HB1 := Lib.hid (bseq HB.out hb1)
      clear hb1
      go_wp2_with fail
      refine (rapart_calls _ _ _ _ _ HR2.out).mono ?_; rintro e w2 ⟨rfl, hb2⟩
      have HB2 := Lib.hid (bseq HB1.out hb2)
      clear hb2
      go_wp2_with fail
      refine (pack_calls _ _ _ _ _ _ _ _ _ (HL.out.below HB2.out) (HV.out.below HB2.out)).mono ?_; rintro e w3 ⟨rfl, hb3⟩
      have HB3 := Lib.hid (bseq HB2.out hb3)
      clear hb3
      rw [HP.out]
      go_wp2_with fail
      refine (one_calls _).mono ?_; rintro e w4 ⟨rfl, hb4⟩
      have HB4 := Lib.hid (bseq HB3.out hb4)
      clear hb4
      go_wp2
      go_ret
      exact ⟨rfl, HB4.out⟩

theorem wordPacks_walk (A : Option Addr) (len cap : Nat) (l : List (List Int)) (A' : Option Addr) (len' cap' : Nat) (v : List (List Int)) (w : World) (hl : RowsAt w [.i64, .i64] A len cap l) (hv : RowsAt w [.u64] A' len' cap' v) :
    Calls Try.prog 6 #[.slice A len cap, .slice A' len' cap'] w fun e w' => e = .returned (.bool true) ∧ Below w.heap.size w w' := by
  have hb1 := hl.2.1
  have hb2 := hl.2.2.1
  have hb3 := hv.2.1
  have hb4 := hv.2.2.1
  by_cases h40 : len ≤ 40
  · by_cases h80 : len' ≤ 80
    · exact packs_calls A len cap l A' len' cap' v w hl hv h40 h80
    · have hlt : decide ((40 : Int) < (len : Int)) = false := by simp; omega
      have hlt' : decide ((80 : Int) < (len' : Int)) = true := by simp; omega
      clear hl hv h40 h80
      go_enter Try.func6, Try.ntmps6
      go_wp2
      go_ret
      exact ⟨rfl, Below.refl _ _⟩
  · have hlt : decide ((40 : Int) < (len : Int)) = true := by simp; omega
    clear hl hv h40
    go_enter Try.func6, Try.ntmps6
    go_wp2
    go_ret
    exact ⟨rfl, Below.refl _ _⟩
end Go.Proofs.Ytpalehomjgbacaa
