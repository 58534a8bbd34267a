/- the walk of ScriptNumbers. -/
import Derived.Test.YtgfingdopelinaaScB2
import Derived.Test.YtgfingdopelinaaScO
namespace Go.Proofs.Ytgfingdopelinaa
set_option linter.unusedSimpArgs false
set_option linter.unusedVariables false
open Go.RowKit Go.Deep

/-- bytes that came in, as rows. -/
theorem bs_rows {W : World} {A : Option Addr} {len cap : Nat} {l : List (List Int)} (h : RowsAt W [.u8] A len cap l) (hA : A = none → cap = 0) : ∃ bs, BsAt W A len cap bs := by
  obtain ⟨h1, h2, h3, h4, h5⟩ := h
  have hk : ∀ z ∈ l, ∃ x : Nat, z = [(x : Int)] ∧ x < 256 := by
    intro z hz
    have := h4 z hz
    match z, this with
    | [y], ⟨hy, _⟩ =>
      simp only [Lit.wf, Bool.and_eq_true, decide_eq_true_eq] at hy
      have e1 : IntKind.u8.min = 0 := rfl
      have e2 : IntKind.u8.max = 255 := rfl
      rw [e1, e2] at hy
      exact ⟨y.toNat, by rw [Int.toNat_of_nonneg hy.1], by omega⟩
    | [], h => exact absurd h (by simp [KindsOk])
    | _ :: _ :: _, h => exact absurd h.2 (by simp [KindsOk])
  refine ⟨l.map (fun z => (z.headD 0).toNat), by simp [h1], h2, h3, ?_, ?_, hA⟩
  · intro x hx
    obtain ⟨z, hz, rfl⟩ := List.mem_map.1 hx
    obtain ⟨y, rfl, hy⟩ := hk z hz
    simpa using hy
  · intro h0
    obtain ⟨b, off, rfl, hc⟩ := h5 h0
    refine ⟨b, off, rfl, fun i hi => ?_⟩
    have hil : i < l.length := by omega
    obtain ⟨y, hy, _⟩ := hk l[i] (List.getElem_mem hil)
    have := hc i hi 0 (.int .u8 (y : Int)) (by rw [List.getD, List.getElem?_eq_getElem hil]; simp [hy, valsOf])
    simp only [List.length_cons, List.length_nil, Nat.zero_add, Nat.mul_one, Nat.add_zero] at this
    rw [this]
    simp [List.getD, hil, hy]
set_option maxRecDepth 100000 in
set_option maxHeartbeats 8000000 in
theorem scriptNumbers_core (A : Option Addr) (len cap : Nat) (bs : List Nat) (v : Nat) (W : World) (hl : BsAt W A len cap bs) (hv : v < 18446744073709551616) :
    Calls Try.prog 6 #[.slice A len cap, .int .u64 v] W fun e w' => e = .returned (.bool true) ∧ Below W.heap.size W w' := by
  have H := Lib.hid hl
  have HV := Lib.hid hv
  by_cases hlen : len ≤ 1000
  · have t0 : decide ((1000 : Int) < (len : Int)) = false := by simp; omega
    have HLEN := Lib.hid hlen
    have HN := Lib.hid (number_calls A len cap bs W hl)
    have hsz : (strOf bs).size ≤ 1099511627776 := by rw [strOf_len, hl.1]; omega
    have hrn := refNumber_calls (strOf bs) W hsz
    rw [bytesOf_strOf bs hl.2.2.2.1] at hrn
    have HRN := Lib.hid hrn
    have hconv := bs_string hl
    obtain ⟨x, hx⟩ : ∃ x, (rdN 0 0 bs).1 = x := ⟨_, rfl⟩
    obtain ⟨n, hn⟩ : ∃ x, (rdN 0 0 bs).2.1 = x := ⟨_, rfl⟩
    obtain ⟨k, hk⟩ : ∃ x, (rdN 0 0 bs).2.2 = x := ⟨_, rfl⟩
    rw [hx, hn, hk] at HN HRN
    have hconv2 := bs_string (hl.below (Below.refl _ W).drew)
    have HPN := Lib.hid (putNumber_calls A len cap bs v W.drew (hl.below (Below.refl _ W).drew) hv (by omega))
    have HRP : Hid (∀ w, Calls Try.prog 8 #[.string (strOf bs), .int .u64 v] w fun e w' => e = .returned (.string (strOf (bs ++ putN v))) ∧ Below w.heap.size w w') := Lib.hid (fun w => by
      have h := refPutNumber_calls (strOf bs) v w hv hsz
      rw [bytesOf_strOf bs hl.2.2.2.1] at h
      exact h)
    have hbl : ∀ y ∈ bs ++ putN v, y < 256 := fun y hy => by
      rcases List.mem_append.1 hy with h | h
      · exact hl.2.2.2.1 y h
      · exact putN_lt v y h
    have HBL := Lib.hid hbl
    obtain ⟨S1, hS1⟩ : ∃ S1, strOf (bs ++ putN v) = S1 := ⟨_, rfl⟩
    rw [hS1] at HRP
    have HS1 := Lib.hid hS1
    clear hx hn hk hl hv hlen hsz hrn hbl hS1
    go_enter Try.func6, Try.ntmps6
    go_wp2_with fail
    refine HN.out.mono ?_; rintro e w' ⟨rfl, rfl⟩
    go_wp2_with fail
    refine HRN.out.mono ?_; rintro e w' ⟨rfl, rfl⟩
    go_wp2_with fail
    refine wp_region_held_drew (S := (fun w' => (convert 41 9 (.slice A len cap)).run Try.prog w' = .ok (.string (strOf bs)) w')) (by kernel_rfl) (hconv2) (fun hH0 => ?_)
    refine take_first 0 (some 27) ?_ rfl rfl (by kernel_rfl) (by kernel_rfl) (by kernel_rfl) (fun _ _ _ h => h) rfl ?hy hH0 ?_
    case hy => (intro w0 hS0; (try dsimp only at hS0); (try go_simp); try with_reducible rfl)
    try simp only [Act.put, List.setIfInBounds_toArray, List.set_cons_zero, List.set_cons_succ]
    refine take_first 1 (some 28) ?_ rfl rfl (by kernel_rfl) (by kernel_rfl) (by kernel_rfl) (fun _ _ _ h => h) rfl ?hy hH0 ?_
    case hy => (intro w0 hS0; (try dsimp only at hS0); (try go_simp); try with_reducible rfl)
    try simp only [Act.put, List.setIfInBounds_toArray, List.set_cons_zero, List.set_cons_succ]
    refine take_first 4 (some 31) ?_ rfl rfl (by kernel_rfl) (by kernel_rfl) (by kernel_rfl) (fun _ _ _ h => h) rfl ?hy hH0 ?_
    case hy => (intro w0 hS0; (try dsimp only at hS0); (try go_simp); try with_reducible rfl)
    try simp only [Act.put, List.setIfInBounds_toArray, List.set_cons_zero, List.set_cons_succ]
    refine take_first 5 (some 32) ?_ rfl rfl (by kernel_rfl) (by kernel_rfl) (by kernel_rfl) (fun _ _ _ h => h) rfl ?hy hH0 ?_
    case hy => (intro w0 hS0; (try dsimp only at hS0); (try go_simp); try with_reducible rfl)
    try simp only [Act.put, List.setIfInBounds_toArray, List.set_cons_zero, List.set_cons_succ]
    refine take_first 6 (some 33) ?_ rfl rfl (by kernel_rfl) (by kernel_rfl) (by kernel_rfl) (fun _ _ _ h => h) rfl ?hy hH0 ?_
    case hy => (intro w0 hS0; (try dsimp only at hS0); (try go_simp); try with_reducible rfl)
    try simp only [Act.put, List.setIfInBounds_toArray, List.set_cons_zero, List.set_cons_succ]
    refine wpAnyH_ready (rs := [2]) (by kernel_rfl) (by simp) (AllReadyH.cons rfl (fun K hK => ?_) AllReadyH.nil)
    go_simp
    refine HPN.out.mono ?_; rintro e w1 ⟨v1, rfl, ho1, hb1⟩
    obtain ⟨A1, n1, k1, hv1⟩ := own_slice ho1
    subst hv1
    have hbs1 := (own_bsat ho1 HBL.out).1
    have hc1 := bs_string hbs1
    rw [HS1.out] at hc1
    have hd1 := bs_string ((H.out.below (Below.refl _ W).drew).below hb1)
    have HB1 : Hid (Below W.heap.size W w1) := Lib.hid ((Below.refl _ W).drew.trans hb1)
    have HBS1 := Lib.hid hbs1
    clear ho1 hbs1 hb1
    refine hK.out _ _ (hd1) (fun hH1 => ?_)
    clear hK hH0
    try simp only [Act.put, List.setIfInBounds_toArray, List.set_cons_zero, List.set_cons_succ]
    refine wpAnyH_ready (rs := [3, 7]) (by kernel_rfl) (by simp) (AllReadyH.cons rfl (fun K hK => ?c3) (AllReadyH.cons rfl (fun K hK => ?c7) AllReadyH.nil))
    case c3 =>
      go_simp
      refine hK.out _ _ (hH1) (fun hH2 => ?_)
      clear hK hH1
      try simp only [Act.put, List.setIfInBounds_toArray, List.set_cons_zero, List.set_cons_succ]
      refine wpAnyH_ready (rs := [7]) (by kernel_rfl) (by simp) (AllReadyH.cons rfl (fun K hK => ?_) AllReadyH.nil)
      go_simp
      refine (HRP.out _).mono ?_; rintro e w2 ⟨rfl, hb2⟩
      have hc2 := bs_string (HBS1.out.below hb2)
      rw [HS1.out] at hc2
      have hd2 := bs_string (((H.out.below HB1.out)).below hb2)
      have HB2 := Lib.hid (bseq HB1.out hb2)
      clear hb2
      refine hK.out _ _ (hd2) (fun hH3 => ?_)
      clear hK hH2
      try simp only [Act.put, List.setIfInBounds_toArray, List.set_cons_zero, List.set_cons_succ]
      refine take_first 8 (some 35) (.bool true) rfl rfl (by kernel_rfl) (by kernel_rfl) (by kernel_rfl) (fun _ _ _ h => h) rfl (by intro w0 hS0; (try dsimp only at hS0); go_simp) hH3 ?_
      try simp only [Act.put, List.setIfInBounds_toArray, List.set_cons_zero, List.set_cons_succ]
      refine take_first 9 (some 36) (.bool true) rfl rfl (by kernel_rfl) (by kernel_rfl) (by kernel_rfl) (fun _ _ _ h => h) rfl (by intro w0 hS0; (try dsimp only at hS0); go_simp) hH3 ?_
      try simp only [Act.put, List.setIfInBounds_toArray, List.set_cons_zero, List.set_cons_succ]
      refine take_first 10 (some 37) ?_ rfl rfl (by kernel_rfl) (by kernel_rfl) (by kernel_rfl) (fun _ _ _ h => h) rfl ?hy hH3 ?_
      case hy => (intro w0 hS0; (try dsimp only at hS0); (try go_simp); try with_reducible rfl)
      try simp only [Act.put, List.setIfInBounds_toArray, List.set_cons_zero, List.set_cons_succ]
      refine take_first 11 (some 38) ?_ rfl rfl (by kernel_rfl) (by kernel_rfl) (by kernel_rfl) (fun _ _ _ h => h) rfl ?hy hH3 ?_
      case hy => (intro w0 hS0; (try dsimp only at hS0); (try go_simp); try with_reducible rfl)
      try simp only [Act.put, List.setIfInBounds_toArray, List.set_cons_zero, List.set_cons_succ]
      refine take_first 12 (some 39) (.bool true) rfl rfl (by kernel_rfl) (by kernel_rfl) (by kernel_rfl) (fun _ _ _ h => h) rfl (by intro w0 hS0; (try dsimp only at hS0); go_simp) hH3 ?_
      try simp only [Act.put, List.setIfInBounds_toArray, List.set_cons_zero, List.set_cons_succ]
      refine take_first 13 (some 40) (.bool true) rfl rfl (by kernel_rfl) (by kernel_rfl) (by kernel_rfl) (fun _ _ _ h => h) rfl (by intro w0 hS0; (try dsimp only at hS0); go_simp) hH3 ?_
      try simp only [Act.put, List.setIfInBounds_toArray, List.set_cons_zero, List.set_cons_succ]
      refine take_first 14 (some 41) (.bool true) rfl rfl (by kernel_rfl) (by kernel_rfl) (by kernel_rfl) (fun _ _ _ h => h) rfl (by intro w0 hS0; (try dsimp only at hS0); go_simp) hH3 ?_
      try simp only [Act.put, List.setIfInBounds_toArray, List.set_cons_zero, List.set_cons_succ]
      refine take_first 15 (some 42) ?_ rfl rfl (by kernel_rfl) (by kernel_rfl) (by kernel_rfl) (fun _ _ _ h => h) rfl ?hy hH3 ?_
      case hy => (intro w0 hS0; (try dsimp only at hS0); (try go_simp); try with_reducible rfl)
      try simp only [Act.put, List.setIfInBounds_toArray, List.set_cons_zero, List.set_cons_succ]
      refine take_first 16 (some 43) ?_ rfl rfl (by kernel_rfl) (by kernel_rfl) (by kernel_rfl) (fun _ _ _ h => h) rfl ?hy hH3 ?_
      case hy => (intro w0 hS0; (try dsimp only at hS0); (try go_simp); try with_reducible rfl)
      try simp only [Act.put, List.setIfInBounds_toArray, List.set_cons_zero, List.set_cons_succ]
      refine take_first 17 (some 44) (.bool true) rfl rfl (by kernel_rfl) (by kernel_rfl) (by kernel_rfl) (fun _ _ _ h => h) rfl (by intro w0 hS0; (try dsimp only at hS0); go_simp) hH3 ?_
      try simp only [Act.put, List.setIfInBounds_toArray, List.set_cons_zero, List.set_cons_succ]
      refine take_first 18 (some 45) (.bool true) rfl rfl (by kernel_rfl) (by kernel_rfl) (by kernel_rfl) (fun _ _ _ h => h) rfl (by intro w0 hS0; (try dsimp only at hS0); go_simp) hH3 ?_
      try simp only [Act.put, List.setIfInBounds_toArray, List.set_cons_zero, List.set_cons_succ]
      refine take_first 19 (some 46) (.bool true) rfl rfl (by kernel_rfl) (by kernel_rfl) (by kernel_rfl) (fun _ _ _ h => h) rfl (by intro w0 hS0; (try dsimp only at hS0); go_simp) hH3 ?_
      try simp only [Act.put, List.setIfInBounds_toArray, List.set_cons_zero, List.set_cons_succ]
      refine take_first 20 (some 47) ?_ rfl rfl (by kernel_rfl) (by kernel_rfl) (by kernel_rfl) (fun _ _ _ h => h) rfl ?hy hH3 ?_
      case hy => (intro w0 hS0; (try dsimp only at hS0); (try go_simp); try with_reducible rfl)
      try simp only [Act.put, List.setIfInBounds_toArray, List.set_cons_zero, List.set_cons_succ]
      refine take_first 21 (some 48) ?_ rfl rfl (by kernel_rfl) (by kernel_rfl) (by kernel_rfl) (fun _ _ _ h => h) rfl ?hy hH3 ?_
      case hy => (intro w0 hS0; (try dsimp only at hS0); (try go_simp); try with_reducible rfl)
      try simp only [Act.put, List.setIfInBounds_toArray, List.set_cons_zero, List.set_cons_succ]
      refine take_first 22 (some 49) (.bool true) rfl rfl (by kernel_rfl) (by kernel_rfl) (by kernel_rfl) (fun _ _ _ h => h) rfl (by intro w0 hS0; (try dsimp only at hS0); go_simp) hH3 ?_
      try simp only [Act.put, List.setIfInBounds_toArray, List.set_cons_zero, List.set_cons_succ]
      refine take_first 23 (some 50) (.bool true) rfl rfl (by kernel_rfl) (by kernel_rfl) (by kernel_rfl) (fun _ _ _ h => h) rfl (by intro w0 hS0; (try dsimp only at hS0); go_simp) hH3 ?_
      try simp only [Act.put, List.setIfInBounds_toArray, List.set_cons_zero, List.set_cons_succ]
      refine take_first 24 (some 51) (.bool true) rfl rfl (by kernel_rfl) (by kernel_rfl) (by kernel_rfl) (fun _ _ _ h => h) rfl (by intro w0 hS0; (try dsimp only at hS0); go_simp) hH3 ?_
      try simp only [Act.put, List.setIfInBounds_toArray, List.set_cons_zero, List.set_cons_succ]
      refine wpAnyH_ready (rs := [25]) (by kernel_rfl) (by simp) (AllReadyH.cons rfl (fun K hK => ?_) AllReadyH.nil)
      go_simp
      refine (one_calls _).mono ?_; rintro e w3 ⟨rfl, hb3⟩
      have hd3 := bs_string ((H.out.below HB2.out).below hb3)
      have HB3 := Lib.hid (bseq HB2.out hb3)
      clear hb3
      refine hK.out _ _ (hd3) (fun hH4 => ?_)
      clear hK hH3
      try simp only [Act.put, List.setIfInBounds_toArray, List.set_cons_zero, List.set_cons_succ]
      refine take_first 26 (some 53) (.bool true) rfl rfl (by kernel_rfl) (by kernel_rfl) (by kernel_rfl) (fun _ _ _ h => h) rfl (by intro w0 hS0; (try dsimp only at hS0); go_simp) hH4 ?_
      try simp only [Act.put, List.setIfInBounds_toArray, List.set_cons_zero, List.set_cons_succ]
      refine take_first 27 (some 4) ?_ rfl rfl (by kernel_rfl) (by kernel_rfl) (by kernel_rfl) (fun _ _ _ h => h) rfl ?hy hH4 ?_
      case hy => (intro w0 hS0; (try dsimp only at hS0); (try go_simp); try with_reducible rfl)
      try simp only [Act.put, List.setIfInBounds_toArray, List.set_cons_zero, List.set_cons_succ]
      refine wpAnyH_done (by kernel_rfl) ?_ _
      clear hc1 hc2 hd1 hd2 hd3 hH4
      go_wp2
      go_ret
      exact ⟨rfl, HB3.out⟩
    case c7 =>
      go_simp
      refine (HRP.out _).mono ?_; rintro e w2 ⟨rfl, hb2⟩
      have hc2 := bs_string (HBS1.out.below hb2)
      rw [HS1.out] at hc2
      have hd2 := bs_string (((H.out.below HB1.out)).below hb2)
      have HB2 := Lib.hid (bseq HB1.out hb2)
      clear hb2
      refine hK.out _ _ (hd2) (fun hH2 => ?_)
      clear hK hH1
      try simp only [Act.put, List.setIfInBounds_toArray, List.set_cons_zero, List.set_cons_succ]
      refine wpAnyH_ready (rs := [3]) (by kernel_rfl) (by simp) (AllReadyH.cons rfl (fun K hK => ?_) AllReadyH.nil)
      go_simp
      refine hK.out _ _ (hH2) (fun hH3 => ?_)
      clear hK hH2
      try simp only [Act.put, List.setIfInBounds_toArray, List.set_cons_zero, List.set_cons_succ]
      refine take_first 8 (some 35) (.bool true) rfl rfl (by kernel_rfl) (by kernel_rfl) (by kernel_rfl) (fun _ _ _ h => h) rfl (by intro w0 hS0; (try dsimp only at hS0); go_simp) hH3 ?_
      try simp only [Act.put, List.setIfInBounds_toArray, List.set_cons_zero, List.set_cons_succ]
      refine take_first 9 (some 36) (.bool true) rfl rfl (by kernel_rfl) (by kernel_rfl) (by kernel_rfl) (fun _ _ _ h => h) rfl (by intro w0 hS0; (try dsimp only at hS0); go_simp) hH3 ?_
      try simp only [Act.put, List.setIfInBounds_toArray, List.set_cons_zero, List.set_cons_succ]
      refine take_first 10 (some 37) ?_ rfl rfl (by kernel_rfl) (by kernel_rfl) (by kernel_rfl) (fun _ _ _ h => h) rfl ?hy hH3 ?_
      case hy => (intro w0 hS0; (try dsimp only at hS0); (try go_simp); try with_reducible rfl)
      try simp only [Act.put, List.setIfInBounds_toArray, List.set_cons_zero, List.set_cons_succ]
      refine take_first 11 (some 38) ?_ rfl rfl (by kernel_rfl) (by kernel_rfl) (by kernel_rfl) (fun _ _ _ h => h) rfl ?hy hH3 ?_
      case hy => (intro w0 hS0; (try dsimp only at hS0); (try go_simp); try with_reducible rfl)
      try simp only [Act.put, List.setIfInBounds_toArray, List.set_cons_zero, List.set_cons_succ]
      refine take_first 12 (some 39) (.bool true) rfl rfl (by kernel_rfl) (by kernel_rfl) (by kernel_rfl) (fun _ _ _ h => h) rfl (by intro w0 hS0; (try dsimp only at hS0); go_simp) hH3 ?_
      try simp only [Act.put, List.setIfInBounds_toArray, List.set_cons_zero, List.set_cons_succ]
      refine take_first 13 (some 40) (.bool true) rfl rfl (by kernel_rfl) (by kernel_rfl) (by kernel_rfl) (fun _ _ _ h => h) rfl (by intro w0 hS0; (try dsimp only at hS0); go_simp) hH3 ?_
      try simp only [Act.put, List.setIfInBounds_toArray, List.set_cons_zero, List.set_cons_succ]
      refine take_first 14 (some 41) (.bool true) rfl rfl (by kernel_rfl) (by kernel_rfl) (by kernel_rfl) (fun _ _ _ h => h) rfl (by intro w0 hS0; (try dsimp only at hS0); go_simp) hH3 ?_
      try simp only [Act.put, List.setIfInBounds_toArray, List.set_cons_zero, List.set_cons_succ]
      refine take_first 15 (some 42) ?_ rfl rfl (by kernel_rfl) (by kernel_rfl) (by kernel_rfl) (fun _ _ _ h => h) rfl ?hy hH3 ?_
      case hy => (intro w0 hS0; (try dsimp only at hS0); (try go_simp); try with_reducible rfl)
      try simp only [Act.put, List.setIfInBounds_toArray, List.set_cons_zero, List.set_cons_succ]
      refine take_first 16 (some 43) ?_ rfl rfl (by kernel_rfl) (by kernel_rfl) (by kernel_rfl) (fun _ _ _ h => h) rfl ?hy hH3 ?_
      case hy => (intro w0 hS0; (try dsimp only at hS0); (try go_simp); try with_reducible rfl)
      try simp only [Act.put, List.setIfInBounds_toArray, List.set_cons_zero, List.set_cons_succ]
      refine take_first 17 (some 44) (.bool true) rfl rfl (by kernel_rfl) (by kernel_rfl) (by kernel_rfl) (fun _ _ _ h => h) rfl (by intro w0 hS0; (try dsimp only at hS0); go_simp) hH3 ?_
      try simp only [Act.put, List.setIfInBounds_toArray, List.set_cons_zero, List.set_cons_succ]
      refine take_first 18 (some 45) (.bool true) rfl rfl (by kernel_rfl) (by kernel_rfl) (by kernel_rfl) (fun _ _ _ h => h) rfl (by intro w0 hS0; (try dsimp only at hS0); go_simp) hH3 ?_
      try simp only [Act.put, List.setIfInBounds_toArray, List.set_cons_zero, List.set_cons_succ]
      refine take_first 19 (some 46) (.bool true) rfl rfl (by kernel_rfl) (by kernel_rfl) (by kernel_rfl) (fun _ _ _ h => h) rfl (by intro w0 hS0; (try dsimp only at hS0); go_simp) hH3 ?_
      try simp only [Act.put, List.setIfInBounds_toArray, List.set_cons_zero, List.set_cons_succ]
      refine take_first 20 (some 47) ?_ rfl rfl (by kernel_rfl) (by kernel_rfl) (by kernel_rfl) (fun _ _ _ h => h) rfl ?hy hH3 ?_
      case hy => (intro w0 hS0; (try dsimp only at hS0); (try go_simp); try with_reducible rfl)
      try simp only [Act.put, List.setIfInBounds_toArray, List.set_cons_zero, List.set_cons_succ]
      refine take_first 21 (some 48) ?_ rfl rfl (by kernel_rfl) (by kernel_rfl) (by kernel_rfl) (fun _ _ _ h => h) rfl ?hy hH3 ?_
      case hy => (intro w0 hS0; (try dsimp only at hS0); (try go_simp); try with_reducible rfl)
      try simp only [Act.put, List.setIfInBounds_toArray, List.set_cons_zero, List.set_cons_succ]
      refine take_first 22 (some 49) (.bool true) rfl rfl (by kernel_rfl) (by kernel_rfl) (by kernel_rfl) (fun _ _ _ h => h) rfl (by intro w0 hS0; (try dsimp only at hS0); go_simp) hH3 ?_
      try simp only [Act.put, List.setIfInBounds_toArray, List.set_cons_zero, List.set_cons_succ]
      refine take_first 23 (some 50) (.bool true) rfl rfl (by kernel_rfl) (by kernel_rfl) (by kernel_rfl) (fun _ _ _ h => h) rfl (by intro w0 hS0; (try dsimp only at hS0); go_simp) hH3 ?_
      try simp only [Act.put, List.setIfInBounds_toArray, List.set_cons_zero, List.set_cons_succ]
      refine take_first 24 (some 51) (.bool true) rfl rfl (by kernel_rfl) (by kernel_rfl) (by kernel_rfl) (fun _ _ _ h => h) rfl (by intro w0 hS0; (try dsimp only at hS0); go_simp) hH3 ?_
      try simp only [Act.put, List.setIfInBounds_toArray, List.set_cons_zero, List.set_cons_succ]
      refine wpAnyH_ready (rs := [25]) (by kernel_rfl) (by simp) (AllReadyH.cons rfl (fun K hK => ?_) AllReadyH.nil)
      go_simp
      refine (one_calls _).mono ?_; rintro e w3 ⟨rfl, hb3⟩
      have hd3 := bs_string ((H.out.below HB2.out).below hb3)
      have HB3 := Lib.hid (bseq HB2.out hb3)
      clear hb3
      refine hK.out _ _ (hd3) (fun hH4 => ?_)
      clear hK hH3
      try simp only [Act.put, List.setIfInBounds_toArray, List.set_cons_zero, List.set_cons_succ]
      refine take_first 26 (some 53) (.bool true) rfl rfl (by kernel_rfl) (by kernel_rfl) (by kernel_rfl) (fun _ _ _ h => h) rfl (by intro w0 hS0; (try dsimp only at hS0); go_simp) hH4 ?_
      try simp only [Act.put, List.setIfInBounds_toArray, List.set_cons_zero, List.set_cons_succ]
      refine take_first 27 (some 4) ?_ rfl rfl (by kernel_rfl) (by kernel_rfl) (by kernel_rfl) (fun _ _ _ h => h) rfl ?hy hH4 ?_
      case hy => (intro w0 hS0; (try dsimp only at hS0); (try go_simp); try with_reducible rfl)
      try simp only [Act.put, List.setIfInBounds_toArray, List.set_cons_zero, List.set_cons_succ]
      refine wpAnyH_done (by kernel_rfl) ?_ _
      clear hc1 hc2 hd1 hd2 hd3 hH4
      go_wp2
      go_ret
      exact ⟨rfl, HB3.out⟩
  · have t0 : decide ((1000 : Int) < (len : Int)) = true := by simp; omega
    clear hl hlen
    go_enter Try.func6, Try.ntmps6
    go_wp2
    go_ret
    exact ⟨rfl, Below.refl _ _⟩
theorem scriptNumbers_walk (A : Option Addr) (len cap : Nat) (bs : List Nat) (v : Int) (hv : (Lit.int .u64 v).wf = true) (W : World) (hl : BsAt W A len cap bs) :
    Calls Try.prog 6 #[.slice A len cap, .int .u64 v] W fun e w' => e = .returned (.bool true) ∧ Below W.heap.size W w' := by
  simp only [Lit.wf, Bool.and_eq_true, decide_eq_true_eq] at hv
  have e1 : IntKind.u64.min = 0 := rfl
  have e2 : IntKind.u64.max = 18446744073709551615 := rfl
  rw [e1, e2] at hv
  obtain ⟨k, rfl⟩ : ∃ k : Nat, v = k := ⟨v.toNat, by omega⟩
  exact scriptNumbers_core A len cap bs k W hl (by omega)
end Go.Proofs.Ytgfingdopelinaa
