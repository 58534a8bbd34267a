/- the walk of ScriptPuts. (Printed by genputs.py over genputs.body.) -/
import Derived.Test.YtgfingdopelinaaScNum
import Derived.Test.YtgfingdopelinaaScW2
import Derived.Test.YtgfingdopelinaaScRp
import Derived.Test.YtgfingdopelinaaScPp
namespace Go.Proofs.Ytgfingdopelinaa
set_option linter.unusedSimpArgs false
set_option linter.unusedVariables false
open Go.RowKit Go.Deep

set_option maxRecDepth 100000 in
set_option maxHeartbeats 8000000 in
theorem scriptPuts_walk (t : Int) (A : Option Addr) (n cap : Nat) (words blocks sweep : Int) (zs : List Int) (E : Option Addr) (m mcap : Nat) (es : List En) (W : World) (hI : IsAt W A n cap zs) (hE : EnsAt W E m mcap es) (hsw : sweep < 9223372036854775808) :
    Calls Try.prog 3 #[confV t A n cap words blocks sweep, .slice E m mcap] W fun e w' => e = .returned (.bool true) ∧ Below W.heap.size W w' := by
  have HSW := Lib.hid hsw
  have hm63 : m ≤ 9223372036854775807 := by have := hE.2.1; have := hE.2.2.1; omega
  have HBX := Lib.hid (Blk.new W 24 [.int .i64 t, .slice A n cap, .int .i64 words, .int .i64 blocks, .int .i64 sweep])
  have hbw : Below W.heap.size W (W.alloc (.cells #[.int .i64 t, .slice A n cap, .int .i64 words, .int .i64 blocks, .int .i64 sweep] 24)) := bnew (Below.refl _ _) _
  have HI1 := Lib.hid (hI.below hbw)
  have HE1 := Lib.hid (hE.below hbw)
  have HBW := Lib.hid hbw
  clear hbw hI hE hsw
  unfold confV
  go_enter Try.func3, Try.ntmps3
  go_upto_region 1 with fail
  generalize W.alloc (.cells #[.int .i64 t, .slice A n cap, .int .i64 words, .int .i64 blocks, .int .i64 sweep] 24) = w1 at HBX HI1 HE1 HBW ⊢
  obtain ⟨cb, hcb⟩ : ∃ cb, W.heap.size = cb := ⟨_, rfl⟩
  rw [hcb] at HBX HBW ⊢
  have HCB := Lib.hid hcb
  clear hcb
  have HFINAL : Hid (∀ w', Below w1.heap.size w1 w' → Below W.heap.size W w') := Lib.hid (fun w' h => by
    rw [HCB.out]
    exact HBW.out.trans (h.mono (by have := HBX.out.lt; omega)))
  obtain ⟨c0, c1, c2, c3, c4⟩ := conf_cells HBX.out
  by_cases hm60 : 60 < m
  · have t0 : decide ((60 : Int) < (m : Int)) = true := by simp; omega
    clear hm60
    go_wp2
    go_ret
    exact ⟨rfl, HFINAL.out _ (Below.refl _ _)⟩
  have t60 : decide ((60 : Int) < (m : Int)) = false := by simp; omega
  have hm60' : m ≤ 60 := by omega
  clear hm60
  by_cases hn20 : 20 < n
  · have t0 : decide ((20 : Int) < (n : Int)) = true := by simp; omega
    clear hn20
    go_wp2
    go_ret
    exact ⟨rfl, HFINAL.out _ (Below.refl _ _)⟩
  have t20 : decide ((20 : Int) < (n : Int)) = false := by simp; omega
  have hn20' : n ≤ 20 := by omega
  clear hn20
  have hcr := cright_calls t A n cap words blocks sweep zs w1 HI1.out
  unfold confV at hcr
  obtain ⟨fc, hfc⟩ : ∃ b, confB t words blocks sweep zs = b := ⟨_, rfl⟩
  rw [hfc] at hcr
  have HFC := Lib.hid hfc
  have HCR := Lib.hid hcr
  clear hcr hfc
  go_wp2_with fail
  refine HCR.out.mono ?_; rintro e w2 ⟨rfl, hb2⟩
  have HB2 := Lib.hid hb2
  clear hb2 c0 c1 c2 c3 c4 HCR
  obtain ⟨c0, c1, c2, c3, c4⟩ := conf_cells (HBX.out.chg (chg_of_below (fun _ => False) HB2.out) (fun h => h))
  have HZN := Lib.hid (show zs.length = n from HI1.out.1)
  have hwn : IntKind.u64.wrap (n : Int) = (n : Int) := wrap_id n (by omega)
  have hwm : IntKind.u64.wrap (m : Int) = (m : Int) := wrap_id m (by omega)
  have hw0 := wrap_u64 t
  have hw2 := wrap_u64 words
  have hw3 := wrap_u64 blocks
  have hw4 := wrap_u64 sweep
  have B1 := Lib.hid (BL.nil.put (u64N_lt t))
  have B2 := Lib.hid (B1.out.put (x := n) (by omega))
  have D1 := fun W => Lib.hid (rp_calls (u64N t) W BL.nil (u64N_lt t) (by omega))
  have D2 := fun W => Lib.hid (rp_calls n W B1.out (by omega) (by omega))
  rw [show strOf [] = noText from rfl] at D1
  generalize strOf ([] ++ putN (u64N t)) = s1 at D1 D2
  obtain ⟨L0, hL0⟩ : ∃ L, [] ++ putN (u64N t) ++ putN n = L := ⟨_, rfl⟩
  rw [hL0] at D2 B2
  have HL0 := Lib.hid hL0
  clear hL0
  obtain ⟨s2, hs2⟩ : ∃ s, strOf L0 = s := ⟨_, rfl⟩
  rw [hs2] at D2
  have HS2 := Lib.hid hs2
  clear hs2
  go_upto_region 4 with fail
  refine wp_region_held_drew (S := (fun w' => w'.cell? ⟨cb, 0, none⟩ = some (.int .i64 t) ∧ w'.cell? ⟨cb, 1, none⟩ = some (.slice A n cap) ∧ w'.cell? ⟨cb, 2, none⟩ = some (.int .i64 words) ∧ w'.cell? ⟨cb, 3, none⟩ = some (.int .i64 blocks) ∧ w'.cell? ⟨cb, 4, none⟩ = some (.int .i64 sweep))) (by kernel_rfl) (⟨c0, c1, c2, c3, c4⟩) (fun hH0 => ?_)
  clear c0 c1 c2 c3 c4
  refine take_first 0 (some 22) ?_ rfl rfl (by kernel_rfl) (by kernel_rfl) (by kernel_rfl) (fun _ _ _ h => h) rfl ?hy hH0 ?_
  case hy => (intro w0 hS0; (try dsimp only at hS0); (try go_simp); try with_reducible rfl)
  try simp only [Act.put, List.setIfInBounds_toArray, List.set_cons_zero, List.set_cons_succ]
  refine take_first 1 (some 23) ?_ rfl rfl (by kernel_rfl) (by kernel_rfl) (by kernel_rfl) (fun _ _ _ h => h) rfl ?hy hH0 ?_
  case hy => (intro w0 hS0; (try dsimp only at hS0); (try go_simp); try with_reducible rfl)
  try simp only [Act.put, List.setIfInBounds_toArray, List.set_cons_zero, List.set_cons_succ]
  refine take_first 2 (some 24) ?_ rfl rfl (by kernel_rfl) (by kernel_rfl) (by kernel_rfl) (fun _ _ _ h => h) rfl ?hy hH0 ?_
  case hy => (intro w0 hS0; (try dsimp only at hS0); (try go_simp); try with_reducible rfl)
  try simp only [Act.put, List.setIfInBounds_toArray, List.set_cons_zero, List.set_cons_succ]
  refine take_first 4 (some 26) ?_ rfl rfl (by kernel_rfl) (by kernel_rfl) (by kernel_rfl) (fun _ _ _ h => h) rfl ?hy hH0 ?_
  case hy => (intro w0 hS0; (try dsimp only at hS0); (try go_simp); try with_reducible rfl)
  try simp only [Act.put, List.setIfInBounds_toArray, List.set_cons_zero, List.set_cons_succ]
  refine take_first 5 (some 27) ?_ rfl rfl (by kernel_rfl) (by kernel_rfl) (by kernel_rfl) (fun _ _ _ h => h) rfl ?hy hH0 ?_
  case hy => (intro w0 hS0; (try dsimp only at hS0); (try go_simp); try with_reducible rfl)
  try simp only [Act.put, List.setIfInBounds_toArray, List.set_cons_zero, List.set_cons_succ]
  refine take_first 6 (some 28) ?_ rfl rfl (by kernel_rfl) (by kernel_rfl) (by kernel_rfl) (fun _ _ _ h => h) rfl ?hy hH0 ?_
  case hy => (intro w0 hS0; (try dsimp only at hS0); (try go_simp); try with_reducible rfl)
  try simp only [Act.put, List.setIfInBounds_toArray, List.set_cons_zero, List.set_cons_succ]
  refine take_first 7 (some 29) ?_ rfl rfl (by kernel_rfl) (by kernel_rfl) (by kernel_rfl) (fun _ _ _ h => h) rfl ?hy hH0 ?_
  case hy => (intro w0 hS0; (try dsimp only at hS0); (try go_simp); try with_reducible rfl)
  try simp only [Act.put, List.setIfInBounds_toArray, List.set_cons_zero, List.set_cons_succ]
  refine wpAnyH_ready (rs := [3]) (by kernel_rfl) (by simp) (AllReadyH.cons rfl (fun K hK => ?_) AllReadyH.nil)
  go_simp
  refine (D1 _).out.mono ?_; rintro e w3 ⟨rfl, hbw3⟩
  have HB3 : Hid (Below w1.heap.size w1 w3) := Lib.hid (bseq (HB2.out.trans (Below.refl _ _).drew) hbw3)
  refine hK.out _ _ (⟨kcell hbw3 (hH0.1), kcell hbw3 (hH0.2.1), kcell hbw3 (hH0.2.2.1), kcell hbw3 (hH0.2.2.2.1), kcell hbw3 (hH0.2.2.2.2)⟩) (fun hH1 => ?_)
  clear hK hH0
  try simp only [Act.put, List.setIfInBounds_toArray, List.set_cons_zero, List.set_cons_succ]
  refine wpAnyH_ready (rs := [8]) (by kernel_rfl) (by simp) (AllReadyH.cons rfl (fun K hK => ?_) AllReadyH.nil)
  go_simp
  refine (D2 _).out.mono ?_; rintro e w4 ⟨rfl, hbw4⟩
  have HB4 : Hid (Below w1.heap.size w1 w4) := Lib.hid (bseq (HB3.out) hbw4)
  refine hK.out _ _ (⟨kcell hbw4 (hH1.1), kcell hbw4 (hH1.2.1), kcell hbw4 (hH1.2.2.1), kcell hbw4 (hH1.2.2.2.1), kcell hbw4 (hH1.2.2.2.2)⟩) (fun hH2 => ?_)
  clear hK hH1
  try simp only [Act.put, List.setIfInBounds_toArray, List.set_cons_zero, List.set_cons_succ]
  refine take_first 9 (some 6) ?_ rfl rfl (by kernel_rfl) (by kernel_rfl) (by kernel_rfl) (fun _ _ _ h => h) rfl ?hy hH2 ?_
  case hy => (intro w0 hS0; (try dsimp only at hS0); (try go_simp); try with_reducible rfl)
  try simp only [Act.put, List.setIfInBounds_toArray, List.set_cons_zero, List.set_cons_succ]
  refine wpAnyH_done (by kernel_rfl) ?_ _
  obtain ⟨c0, c1, c2, c3, c4⟩ := hH2
  clear hbw3 hbw4
  clear c0 c1 c2 c3 c4 D1 D2 hw0
  go_wp2_with fail
  go_loopg [6, 7] n (fun g v i wr => ∃ (k : Nat) (sk : ByteArray), k ≤ n ∧ g = n - k ∧ i = .int .i64 k ∧ v = .string sk ∧ Hid (sk = strOf (L0 ++ putZ (zs.take k))) ∧ Hid (Below w4.heap.size w4 wr))
  case atStart => exact ⟨0, s2, by omega, rfl, rfl, rfl, Lib.hid (by rw [← HS2.out]; simp [putZ, putL_nil]), Lib.hid (Below.refl _ _)⟩
  case round =>
    obtain ⟨k, sk, hk, rfl, rfl, rfl, HSK, HI⟩ := hrel
    have HIS := Lib.hid (HI1.out.below (bseq HB4.out HI.out))
    obtain ⟨c0, c1, c2, c3, c4⟩ := conf_cells (HBX.out.chg (chg_of_below (fun _ => False) (bseq HB4.out HI.out)) (fun h => h))
    by_cases hlt : k < n
    · obtain ⟨ib, io, hA, hcl⟩ := HIS.out.2.2.2.2 (by omega)
      subst hA
      have f1 := hcl k hlt
      have hnx : strOf (L0 ++ putZ (zs.take k) ++ putN (u64N (zs.getD k 0))) = strOf (L0 ++ putZ (zs.take (k + 1))) := by
        rw [putZ_succ zs (by rw [HZN.out]; exact hlt), List.append_assoc]
      have hzl : (zs.take k).length = k := by rw [List.length_take, HZN.out]; omega
      have DZ := fun W => Lib.hid (rp_calls (u64N (zs.getD k 0)) W (B2.out.app (putZ_bl (zs.take k))) (u64N_lt _) (by omega))
      rw [← HSK.out, hnx] at DZ
      obtain ⟨sn, hsn⟩ : ∃ s, strOf (L0 ++ putZ (zs.take (k + 1))) = s := ⟨_, rfl⟩
      rw [hsn] at DZ
      have HSN := Lib.hid hsn.symm
      generalize zs.getD k 0 = z at f1 DZ hnx
      have hwz := wrap_u64 z
      have i0 : (0 : Int) ≤ (k : Int) := Int.natCast_nonneg k
      clear hnx hzl hsn hcl
      go_wp2_with fail
      refine (DZ _).out.mono ?_; rintro e wz ⟨rfl, hbz⟩
      have HBZ := Lib.hid (bseq HI.out hbz)
      clear hbz c0 c1 c2 c3 c4 f1 hwz
      go_wp2
      go_roundg (n - (k + 1))
      case measure => omega
      case rel => exact ⟨k + 1, sn, by omega, rfl, by go_num, rfl, HSN, HBZ⟩
    · obtain rfl : n = k := by omega
      clear hlt
      have hB3 : BL 220 (L0 ++ putZ zs) := (B2.out.app (putZ_bl zs)).mono (by rw [HZN.out]; omega)
      have hsk : sk = strOf (L0 ++ putZ zs) := by rw [HSK.out, List.take_of_length_le (by rw [HZN.out]; exact Nat.le_refl _)]
      have b4 := hB3.put (u64N_lt words)
      have b5 := b4.put (u64N_lt blocks)
      have b6 := b5.put (u64N_lt sweep)
      have b7 := b6.put (x := m) (by omega)
      have D3 := fun W => Lib.hid (rp_calls (u64N words) W hB3 (u64N_lt _) (by omega))
      have D4 := fun W => Lib.hid (rp_calls (u64N blocks) W b4 (u64N_lt _) (by omega))
      have D5 := fun W => Lib.hid (rp_calls (u64N sweep) W b5 (u64N_lt _) (by omega))
      have D6 := fun W => Lib.hid (rp_calls m W b6 (by omega) (by omega))
      rw [← hsk] at D3
      obtain ⟨LB, hLB⟩ : ∃ L, L0 ++ putZ zs ++ putN (u64N words) ++ putN (u64N blocks) ++ putN (u64N sweep) ++ putN m = L := ⟨_, rfl⟩
      have HLB : Hid (LB = wantA t words blocks sweep zs m) := Lib.hid (by rw [← hLB, ← HL0.out, ← HZN.out]; rfl)
      rw [hLB] at D6 b7
      have B7 := Lib.hid b7
      obtain ⟨s6, hs6⟩ : ∃ s, strOf LB = s := ⟨_, rfl⟩
      rw [hs6] at D6
      have HS6 := Lib.hid hs6
      generalize strOf (L0 ++ putZ zs ++ putN (u64N words) ++ putN (u64N blocks) ++ putN (u64N sweep)) = s5 at D5 D6
      generalize strOf (L0 ++ putZ zs ++ putN (u64N words) ++ putN (u64N blocks)) = s4 at D4 D5
      generalize strOf (L0 ++ putZ zs ++ putN (u64N words)) = s3 at D3 D4
      clear hsk hB3 b4 b5 b6 b7 hLB hs6 HSK HS2 B1 B2 HL0
      go_upto_region 9 with fail
      refine wp_region_held_drew (S := (fun w' => w'.cell? ⟨cb, 0, none⟩ = some (.int .i64 t) ∧ w'.cell? ⟨cb, 1, none⟩ = some (.slice A n cap) ∧ w'.cell? ⟨cb, 2, none⟩ = some (.int .i64 words) ∧ w'.cell? ⟨cb, 3, none⟩ = some (.int .i64 blocks) ∧ w'.cell? ⟨cb, 4, none⟩ = some (.int .i64 sweep))) (by kernel_rfl) (⟨c0, c1, c2, c3, c4⟩) (fun hH0 => ?_)
      clear c0 c1 c2 c3 c4
      refine take_first 0 (some 46) ?_ rfl rfl (by kernel_rfl) (by kernel_rfl) (by kernel_rfl) (fun _ _ _ h => h) rfl ?hy hH0 ?_
      case hy => (intro w0 hS0; (try dsimp only at hS0); (try go_simp); try with_reducible rfl)
      try simp only [Act.put, List.setIfInBounds_toArray, List.set_cons_zero, List.set_cons_succ]
      refine take_first 1 (some 47) ?_ rfl rfl (by kernel_rfl) (by kernel_rfl) (by kernel_rfl) (fun _ _ _ h => h) rfl ?hy hH0 ?_
      case hy => (intro w0 hS0; (try dsimp only at hS0); (try go_simp); try with_reducible rfl)
      try simp only [Act.put, List.setIfInBounds_toArray, List.set_cons_zero, List.set_cons_succ]
      refine take_first 2 (some 48) ?_ rfl rfl (by kernel_rfl) (by kernel_rfl) (by kernel_rfl) (fun _ _ _ h => h) rfl ?hy hH0 ?_
      case hy => (intro w0 hS0; (try dsimp only at hS0); (try go_simp); try with_reducible rfl)
      try simp only [Act.put, List.setIfInBounds_toArray, List.set_cons_zero, List.set_cons_succ]
      refine take_first 3 (some 49) ?_ rfl rfl (by kernel_rfl) (by kernel_rfl) (by kernel_rfl) (fun _ _ _ h => h) rfl ?hy hH0 ?_
      case hy => (intro w0 hS0; (try dsimp only at hS0); (try go_simp); try with_reducible rfl)
      try simp only [Act.put, List.setIfInBounds_toArray, List.set_cons_zero, List.set_cons_succ]
      refine take_first 5 (some 51) ?_ rfl rfl (by kernel_rfl) (by kernel_rfl) (by kernel_rfl) (fun _ _ _ h => h) rfl ?hy hH0 ?_
      case hy => (intro w0 hS0; (try dsimp only at hS0); (try go_simp); try with_reducible rfl)
      try simp only [Act.put, List.setIfInBounds_toArray, List.set_cons_zero, List.set_cons_succ]
      refine take_first 6 (some 52) ?_ rfl rfl (by kernel_rfl) (by kernel_rfl) (by kernel_rfl) (fun _ _ _ h => h) rfl ?hy hH0 ?_
      case hy => (intro w0 hS0; (try dsimp only at hS0); (try go_simp); try with_reducible rfl)
      try simp only [Act.put, List.setIfInBounds_toArray, List.set_cons_zero, List.set_cons_succ]
      refine take_first 7 (some 53) ?_ rfl rfl (by kernel_rfl) (by kernel_rfl) (by kernel_rfl) (fun _ _ _ h => h) rfl ?hy hH0 ?_
      case hy => (intro w0 hS0; (try dsimp only at hS0); (try go_simp); try with_reducible rfl)
      try simp only [Act.put, List.setIfInBounds_toArray, List.set_cons_zero, List.set_cons_succ]
      refine take_first 9 (some 55) ?_ rfl rfl (by kernel_rfl) (by kernel_rfl) (by kernel_rfl) (fun _ _ _ h => h) rfl ?hy hH0 ?_
      case hy => (intro w0 hS0; (try dsimp only at hS0); (try go_simp); try with_reducible rfl)
      try simp only [Act.put, List.setIfInBounds_toArray, List.set_cons_zero, List.set_cons_succ]
      refine take_first 10 (some 56) ?_ rfl rfl (by kernel_rfl) (by kernel_rfl) (by kernel_rfl) (fun _ _ _ h => h) rfl ?hy hH0 ?_
      case hy => (intro w0 hS0; (try dsimp only at hS0); (try go_simp); try with_reducible rfl)
      try simp only [Act.put, List.setIfInBounds_toArray, List.set_cons_zero, List.set_cons_succ]
      refine take_first 11 (some 57) ?_ rfl rfl (by kernel_rfl) (by kernel_rfl) (by kernel_rfl) (fun _ _ _ h => h) rfl ?hy hH0 ?_
      case hy => (intro w0 hS0; (try dsimp only at hS0); (try go_simp); try with_reducible rfl)
      try simp only [Act.put, List.setIfInBounds_toArray, List.set_cons_zero, List.set_cons_succ]
      refine take_first 13 (some 59) ?_ rfl rfl (by kernel_rfl) (by kernel_rfl) (by kernel_rfl) (fun _ _ _ h => h) rfl ?hy hH0 ?_
      case hy => (intro w0 hS0; (try dsimp only at hS0); (try go_simp); try with_reducible rfl)
      try simp only [Act.put, List.setIfInBounds_toArray, List.set_cons_zero, List.set_cons_succ]
      refine take_first 14 (some 60) ?_ rfl rfl (by kernel_rfl) (by kernel_rfl) (by kernel_rfl) (fun _ _ _ h => h) rfl ?hy hH0 ?_
      case hy => (intro w0 hS0; (try dsimp only at hS0); (try go_simp); try with_reducible rfl)
      try simp only [Act.put, List.setIfInBounds_toArray, List.set_cons_zero, List.set_cons_succ]
      refine take_first 15 (some 61) ?_ rfl rfl (by kernel_rfl) (by kernel_rfl) (by kernel_rfl) (fun _ _ _ h => h) rfl ?hy hH0 ?_
      case hy => (intro w0 hS0; (try dsimp only at hS0); (try go_simp); try with_reducible rfl)
      try simp only [Act.put, List.setIfInBounds_toArray, List.set_cons_zero, List.set_cons_succ]
      refine wpAnyH_ready (rs := [4]) (by kernel_rfl) (by simp) (AllReadyH.cons rfl (fun K hK => ?_) AllReadyH.nil)
      go_simp
      refine (D3 _).out.mono ?_; rintro e w5 ⟨rfl, hbw5⟩
      have HB5 : Hid (Below w4.heap.size w4 w5) := Lib.hid (bseq (HI.out.trans (Below.refl _ _).drew) hbw5)
      refine hK.out _ _ (⟨kcell hbw5 (hH0.1), kcell hbw5 (hH0.2.1), kcell hbw5 (hH0.2.2.1), kcell hbw5 (hH0.2.2.2.1), kcell hbw5 (hH0.2.2.2.2)⟩) (fun hH1 => ?_)
      clear hK hH0
      try simp only [Act.put, List.setIfInBounds_toArray, List.set_cons_zero, List.set_cons_succ]
      refine wpAnyH_ready (rs := [8]) (by kernel_rfl) (by simp) (AllReadyH.cons rfl (fun K hK => ?_) AllReadyH.nil)
      go_simp
      refine (D4 _).out.mono ?_; rintro e w6 ⟨rfl, hbw6⟩
      have HB6 : Hid (Below w4.heap.size w4 w6) := Lib.hid (bseq (HB5.out) hbw6)
      refine hK.out _ _ (⟨kcell hbw6 (hH1.1), kcell hbw6 (hH1.2.1), kcell hbw6 (hH1.2.2.1), kcell hbw6 (hH1.2.2.2.1), kcell hbw6 (hH1.2.2.2.2)⟩) (fun hH2 => ?_)
      clear hK hH1
      try simp only [Act.put, List.setIfInBounds_toArray, List.set_cons_zero, List.set_cons_succ]
      refine wpAnyH_ready (rs := [12]) (by kernel_rfl) (by simp) (AllReadyH.cons rfl (fun K hK => ?_) AllReadyH.nil)
      go_simp
      refine (D5 _).out.mono ?_; rintro e w7 ⟨rfl, hbw7⟩
      have HB7 : Hid (Below w4.heap.size w4 w7) := Lib.hid (bseq (HB6.out) hbw7)
      refine hK.out _ _ (⟨kcell hbw7 (hH2.1), kcell hbw7 (hH2.2.1), kcell hbw7 (hH2.2.2.1), kcell hbw7 (hH2.2.2.2.1), kcell hbw7 (hH2.2.2.2.2)⟩) (fun hH3 => ?_)
      clear hK hH2
      try simp only [Act.put, List.setIfInBounds_toArray, List.set_cons_zero, List.set_cons_succ]
      refine wpAnyH_ready (rs := [16]) (by kernel_rfl) (by simp) (AllReadyH.cons rfl (fun K hK => ?_) AllReadyH.nil)
      go_simp
      refine (D6 _).out.mono ?_; rintro e w8 ⟨rfl, hbw8⟩
      have HB8 : Hid (Below w4.heap.size w4 w8) := Lib.hid (bseq (HB7.out) hbw8)
      refine hK.out _ _ (⟨kcell hbw8 (hH3.1), kcell hbw8 (hH3.2.1), kcell hbw8 (hH3.2.2.1), kcell hbw8 (hH3.2.2.2.1), kcell hbw8 (hH3.2.2.2.2)⟩) (fun hH4 => ?_)
      clear hK hH3
      try simp only [Act.put, List.setIfInBounds_toArray, List.set_cons_zero, List.set_cons_succ]
      refine take_first 17 (some 6) ?_ rfl rfl (by kernel_rfl) (by kernel_rfl) (by kernel_rfl) (fun _ _ _ h => h) rfl ?hy hH4 ?_
      case hy => (intro w0 hS0; (try dsimp only at hS0); (try go_simp); try with_reducible rfl)
      try simp only [Act.put, List.setIfInBounds_toArray, List.set_cons_zero, List.set_cons_succ]
      refine wpAnyH_done (by kernel_rfl) ?_ _
      obtain ⟨c0, c1, c2, c3, c4⟩ := hH4
      clear hbw5 hbw6 hbw7 hbw8
      clear c0 c1 c2 c3 c4 D3 D4 D5 D6 hw2 hw3 hw4 hwn hwm
      have HB18 := Lib.hid (bseq HB4.out HB8.out)
      have HES8 := Lib.hid (HE1.out.below HB18.out)
      have HIS8 := Lib.hid (HI1.out.below HB18.out)
      go_wp2_with fail
      go_loopg [5, 6, 8] m (fun g v5 v6 i wr => ∃ (k : Nat) (fb : Bool) (sk : ByteArray), v5 = .bool fb ∧ v6 = .string sk ∧ k ≤ m ∧ g = m - k ∧ i = .int .i64 k ∧ Hid (fb = (fc && (es.take k).all En.rightB)) ∧ Hid (sk = strOf (LB ++ putR (es.take k))) ∧ Hid (Below w8.heap.size w8 wr))
      case atStart => exact ⟨0, fc, s6, rfl, rfl, by omega, rfl, rfl, Lib.hid (by simp), Lib.hid (by rw [← HS6.out]; simp [putR]), Lib.hid (Below.refl _ _)⟩
      case round =>
        obtain ⟨k, fb, sk, rfl, rfl, hk, rfl, rfl, HFB, HSK, HI2⟩ := hrel
        have HESR := Lib.hid (HES8.out.below HI2.out)
        have HEM := Lib.hid (show es.length = m from HES8.out.1)
        by_cases hlt : k < m
        · obtain ⟨en, hek⟩ : ∃ e, es.getD k enZero = e := ⟨_, rfl⟩
          obtain ⟨eb, eo, hE, d0, d1, d2, d3, d4, d5, d6, d7, d8⟩ := HESR.out.cells hlt hek
          subst hE
          have hem : en ∈ es := by
            rw [← hek, List.getD, List.getElem?_eq_getElem (by rw [HEM.out]; exact hlt)]
            exact List.getElem_mem _
          have HGP := Lib.hid (HES8.out.2.2.2.1 en hem)
          have i0 : (0 : Int) ≤ (k : Int) := Int.natCast_nonneg k
          by_cases htx : en.text.size ≤ 1000
          · have ttx : decide ((1000 : Int) < (en.text.size : Int)) = false := by simp; omega
            have ER := fun W => Lib.hid (eright_calls en W)
            have RC := fun W => Lib.hid (lright_calls en W)
            have hall := all_succ es (k := k) (by rw [HEM.out]; exact hlt)
            have hput := putR_succ es (k := k) (by rw [HEM.out]; exact hlt)
            rw [hek] at hall hput
            have hBLk := B7.out.app (putR_bl (es.take k) (fun e he => HES8.out.2.2.2.1 e (List.mem_of_mem_take he)))
            have hkl : (es.take k).length = k := by rw [List.length_take, HEM.out]; omega
            cases hrb : en.rightB with
            | true =>
              simp only [hrb] at ER RC
              rw [hrb, if_pos rfl] at hput
              rw [hrb, Bool.and_true] at hall
              have OW := fun W => Lib.hid (ownE_calls en W)
              have PU := fun W => Lib.hid (own_put en W hBLk (by omega) hrb HGP.out.1 HGP.out.2 htx)
              rw [← HSK.out, List.append_assoc, ← hput] at PU
              obtain ⟨sn, hsn⟩ : ∃ s, strOf (LB ++ putR (es.take (k + 1))) = s := ⟨_, rfl⟩
              rw [hsn] at PU
              have HNS := Lib.hid hsn.symm
              have HNF0 : Hid (fb = (fc && (es.take (k + 1)).all En.rightB)) := Lib.hid (by rw [hall]; exact HFB.out)
              clear hall hput hBLk hkl hrb hem hek hsn htx HFB
              obtain ⟨th, pk, kd, tp, gk, gn, md, tx, ps⟩ := en
              unfold En.val at ER RC OW
              unfold ownV at OW PU
              dsimp only at ER RC OW PU d0 d1 d2 d3 d4 d5 d6 d7 d8 ttx
              go_upto_region 15 with fail
              refine wp_region_held_drew (S := (fun w' => w'.cell? ⟨eb, eo + k * 9, none⟩ = some (.int .i64 th) ∧ w'.cell? ⟨eb, eo + k * 9 + 1, none⟩ = some (.bool pk) ∧ w'.cell? ⟨eb, eo + k * 9 + 2, none⟩ = some (.int .i64 kd) ∧ w'.cell? ⟨eb, eo + k * 9 + 3, none⟩ = some (.int .i64 tp) ∧ w'.cell? ⟨eb, eo + k * 9 + 4, none⟩ = some (.int .i64 gk) ∧ w'.cell? ⟨eb, eo + k * 9 + 5, none⟩ = some (.int .u64 gn) ∧ w'.cell? ⟨eb, eo + k * 9 + 6, none⟩ = some (.int .i64 md) ∧ w'.cell? ⟨eb, eo + k * 9 + 7, none⟩ = some (.string tx) ∧ w'.cell? ⟨eb, eo + k * 9 + 8, none⟩ = some (.int .u64 ps))) (by kernel_rfl) (⟨d0, d1, d2, d3, d4, d5, d6, d7, d8⟩) (fun hH0 => ?_)
              clear d0 d1 d2 d3 d4 d5 d6 d7 d8
              refine take_first 0 (some 77) ?_ rfl rfl (by kernel_rfl) (by kernel_rfl) (by kernel_rfl) (fun _ _ _ h => h) rfl ?hy hH0 ?_
              case hy => (intro w0 hS0; (try dsimp only at hS0); (try go_simp); try with_reducible rfl)
              try simp only [Act.put, List.setIfInBounds_toArray, List.set_cons_zero, List.set_cons_succ]
              refine take_first 1 (some 78) ?_ rfl rfl (by kernel_rfl) (by kernel_rfl) (by kernel_rfl) (fun _ _ _ h => h) rfl ?hy hH0 ?_
              case hy => (intro w0 hS0; (try dsimp only at hS0); (try go_simp); try with_reducible rfl)
              try simp only [Act.put, List.setIfInBounds_toArray, List.set_cons_zero, List.set_cons_succ]
              refine take_first 2 (some 79) ?_ rfl rfl (by kernel_rfl) (by kernel_rfl) (by kernel_rfl) (fun _ _ _ h => h) rfl ?hy hH0 ?_
              case hy => (intro w0 hS0; (try dsimp only at hS0); (try go_simp); try with_reducible rfl)
              try simp only [Act.put, List.setIfInBounds_toArray, List.set_cons_zero, List.set_cons_succ]
              refine take_first 3 (some 80) ?_ rfl rfl (by kernel_rfl) (by kernel_rfl) (by kernel_rfl) (fun _ _ _ h => h) rfl ?hy hH0 ?_
              case hy => (intro w0 hS0; (try dsimp only at hS0); (try go_simp); try with_reducible rfl)
              try simp only [Act.put, List.setIfInBounds_toArray, List.set_cons_zero, List.set_cons_succ]
              refine take_first 5 (some 82) ?_ rfl rfl (by kernel_rfl) (by kernel_rfl) (by kernel_rfl) (fun _ _ _ h => h) rfl ?hy hH0 ?_
              case hy => (intro w0 hS0; (try dsimp only at hS0); (try go_simp); try with_reducible rfl)
              try simp only [Act.put, List.setIfInBounds_toArray, List.set_cons_zero, List.set_cons_succ]
              refine take_first 6 (some 83) ?_ rfl rfl (by kernel_rfl) (by kernel_rfl) (by kernel_rfl) (fun _ _ _ h => h) rfl ?hy hH0 ?_
              case hy => (intro w0 hS0; (try dsimp only at hS0); (try go_simp); try with_reducible rfl)
              try simp only [Act.put, List.setIfInBounds_toArray, List.set_cons_zero, List.set_cons_succ]
              refine take_first 7 (some 84) ?_ rfl rfl (by kernel_rfl) (by kernel_rfl) (by kernel_rfl) (fun _ _ _ h => h) rfl ?hy hH0 ?_
              case hy => (intro w0 hS0; (try dsimp only at hS0); (try go_simp); try with_reducible rfl)
              try simp only [Act.put, List.setIfInBounds_toArray, List.set_cons_zero, List.set_cons_succ]
              refine take_first 8 (some 85) ?_ rfl rfl (by kernel_rfl) (by kernel_rfl) (by kernel_rfl) (fun _ _ _ h => h) rfl ?hy hH0 ?_
              case hy => (intro w0 hS0; (try dsimp only at hS0); (try go_simp); try with_reducible rfl)
              try simp only [Act.put, List.setIfInBounds_toArray, List.set_cons_zero, List.set_cons_succ]
              refine wpAnyH_ready (rs := [4]) (by kernel_rfl) (by simp) (AllReadyH.cons rfl (fun K hK => ?_) AllReadyH.nil)
              go_simp
              refine (ER _).out.mono ?_; rintro e w9 ⟨rfl, hbw9⟩
              have HB9 : Hid (Below w8.heap.size w8 w9) := Lib.hid (bseq (HI2.out.trans (Below.refl _ _).drew) hbw9)
              refine hK.out _ _ (⟨kcell hbw9 (hH0.1), kcell hbw9 (hH0.2.1), kcell hbw9 (hH0.2.2.1), kcell hbw9 (hH0.2.2.2.1), kcell hbw9 (hH0.2.2.2.2.1), kcell hbw9 (hH0.2.2.2.2.2.1), kcell hbw9 (hH0.2.2.2.2.2.2.1), kcell hbw9 (hH0.2.2.2.2.2.2.2.1), kcell hbw9 (hH0.2.2.2.2.2.2.2.2)⟩) (fun hH1 => ?_)
              clear hK hH0
              try simp only [Act.put, List.setIfInBounds_toArray, List.set_cons_zero, List.set_cons_succ]
              refine wpAnyH_ready (rs := [9]) (by kernel_rfl) (by simp) (AllReadyH.cons rfl (fun K hK => ?_) AllReadyH.nil)
              go_simp
              refine (RC _).out.mono ?_; rintro e w10 ⟨rfl, hbw10⟩
              have HB10 : Hid (Below w8.heap.size w8 w10) := Lib.hid (bseq (HB9.out) hbw10)
              refine hK.out _ _ (⟨kcell hbw10 (hH1.1), kcell hbw10 (hH1.2.1), kcell hbw10 (hH1.2.2.1), kcell hbw10 (hH1.2.2.2.1), kcell hbw10 (hH1.2.2.2.2.1), kcell hbw10 (hH1.2.2.2.2.2.1), kcell hbw10 (hH1.2.2.2.2.2.2.1), kcell hbw10 (hH1.2.2.2.2.2.2.2.1), kcell hbw10 (hH1.2.2.2.2.2.2.2.2)⟩) (fun hH2 => ?_)
              clear hK hH1
              try simp only [Act.put, List.setIfInBounds_toArray, List.set_cons_zero, List.set_cons_succ]
              refine take_first 10 (some 87) (.bool false) rfl rfl (by kernel_rfl) (by kernel_rfl) (by kernel_rfl) (fun _ _ _ h => h) rfl (by intro w0 hS0; (try dsimp only at hS0); go_simp) hH2 ?_
              try simp only [Act.put, List.setIfInBounds_toArray, List.set_cons_zero, List.set_cons_succ]
              refine wpAnyH_done (by kernel_rfl) ?_ _
              obtain ⟨d0, d1, d2, d3, d4, d5, d6, d7, d8⟩ := hH2
              clear hbw9 hbw10
              cases fb with
              | true =>
                have HNF := HNF0
                go_wp2_with fail
                refine (RC _).out.mono ?_; rintro e w11 ⟨rfl, hbw11⟩
                have Hw11 : Hid (Below w8.heap.size w8 w11) := Lib.hid (bseq HB10.out hbw11)
                have e0 := kcell hbw11 d0
                have e1 := kcell hbw11 d1
                have e2 := kcell hbw11 d2
                have e3 := kcell hbw11 d3
                have e4 := kcell hbw11 d4
                have e5 := kcell hbw11 d5
                have e6 := kcell hbw11 d6
                have e7 := kcell hbw11 d7
                have e8 := kcell hbw11 d8
                clear hbw11 d0 d1 d2 d3 d4 d5 d6 d7 d8
                go_wp2_with fail
                refine (RC _).out.mono ?_; rintro e w12 ⟨rfl, hbw12⟩
                have Hw12 : Hid (Below w8.heap.size w8 w12) := Lib.hid (bseq Hw11.out hbw12)
                have d0 := kcell hbw12 e0
                have d1 := kcell hbw12 e1
                have d2 := kcell hbw12 e2
                have d3 := kcell hbw12 e3
                have d4 := kcell hbw12 e4
                have d5 := kcell hbw12 e5
                have d6 := kcell hbw12 e6
                have d7 := kcell hbw12 e7
                have d8 := kcell hbw12 e8
                clear hbw12 e0 e1 e2 e3 e4 e5 e6 e7 e8
                go_wp2_with fail
                refine (OW _).out.mono ?_; rintro e w13 ⟨rfl, hbw13⟩
                have Hw13 : Hid (Below w8.heap.size w8 w13) := Lib.hid (bseq Hw12.out hbw13)
                have e0 := kcell hbw13 d0
                have e1 := kcell hbw13 d1
                have e2 := kcell hbw13 d2
                have e3 := kcell hbw13 d3
                have e4 := kcell hbw13 d4
                have e5 := kcell hbw13 d5
                have e6 := kcell hbw13 d6
                have e7 := kcell hbw13 d7
                have e8 := kcell hbw13 d8
                clear hbw13 d0 d1 d2 d3 d4 d5 d6 d7 d8
                go_wp2_with fail
                refine (PU _).out.mono ?_; rintro e w14 ⟨rfl, hbw14⟩
                have Hw14 : Hid (Below w8.heap.size w8 w14) := Lib.hid (bseq Hw13.out hbw14)
                have d0 := kcell hbw14 e0
                have d1 := kcell hbw14 e1
                have d2 := kcell hbw14 e2
                have d3 := kcell hbw14 e3
                have d4 := kcell hbw14 e4
                have d5 := kcell hbw14 e5
                have d6 := kcell hbw14 e6
                have d7 := kcell hbw14 e7
                have d8 := kcell hbw14 e8
                clear hbw14 e0 e1 e2 e3 e4 e5 e6 e7 e8
                clear d0 d1 d2 d3 d4 d5 d6 d7 d8
                go_wp2
                go_roundg (m - (k + 1))
                case measure => omega
                case rel => exact ⟨k + 1, true, _, rfl, rfl, by omega, rfl, by go_num, HNF, HNS, Hw14⟩
              | false =>
                have HNF := HNF0
                go_wp2_with fail
                refine (RC _).out.mono ?_; rintro e w12 ⟨rfl, hbw12⟩
                have Hw12 : Hid (Below w8.heap.size w8 w12) := Lib.hid (bseq HB10.out hbw12)
                have e0 := kcell hbw12 d0
                have e1 := kcell hbw12 d1
                have e2 := kcell hbw12 d2
                have e3 := kcell hbw12 d3
                have e4 := kcell hbw12 d4
                have e5 := kcell hbw12 d5
                have e6 := kcell hbw12 d6
                have e7 := kcell hbw12 d7
                have e8 := kcell hbw12 d8
                clear hbw12 d0 d1 d2 d3 d4 d5 d6 d7 d8
                go_wp2_with fail
                refine (OW _).out.mono ?_; rintro e w13 ⟨rfl, hbw13⟩
                have Hw13 : Hid (Below w8.heap.size w8 w13) := Lib.hid (bseq Hw12.out hbw13)
                have d0 := kcell hbw13 e0
                have d1 := kcell hbw13 e1
                have d2 := kcell hbw13 e2
                have d3 := kcell hbw13 e3
                have d4 := kcell hbw13 e4
                have d5 := kcell hbw13 e5
                have d6 := kcell hbw13 e6
                have d7 := kcell hbw13 e7
                have d8 := kcell hbw13 e8
                clear hbw13 e0 e1 e2 e3 e4 e5 e6 e7 e8
                go_wp2_with fail
                refine (PU _).out.mono ?_; rintro e w14 ⟨rfl, hbw14⟩
                have Hw14 : Hid (Below w8.heap.size w8 w14) := Lib.hid (bseq Hw13.out hbw14)
                have e0 := kcell hbw14 d0
                have e1 := kcell hbw14 d1
                have e2 := kcell hbw14 d2
                have e3 := kcell hbw14 d3
                have e4 := kcell hbw14 d4
                have e5 := kcell hbw14 d5
                have e6 := kcell hbw14 d6
                have e7 := kcell hbw14 d7
                have e8 := kcell hbw14 d8
                clear hbw14 d0 d1 d2 d3 d4 d5 d6 d7 d8
                clear e0 e1 e2 e3 e4 e5 e6 e7 e8
                go_wp2
                go_roundg (m - (k + 1))
                case measure => omega
                case rel => exact ⟨k + 1, false, _, rfl, rfl, by omega, rfl, by go_num, HNF, HNS, Hw14⟩
            | false =>
              simp only [hrb] at ER RC
              rw [hrb, if_neg (by decide), List.append_nil] at hput
              rw [hrb, Bool.and_false] at hall
              have HNS : Hid (sk = strOf (LB ++ putR (es.take (k + 1)))) := Lib.hid (by rw [hput]; exact HSK.out)
              have HNF : Hid (false = (fc && (es.take (k + 1)).all En.rightB)) := Lib.hid (by rw [hall, Bool.and_false])
              clear hall hput hBLk hkl hrb hem hek htx HFB
              obtain ⟨th, pk, kd, tp, gk, gn, md, tx, ps⟩ := en
              unfold En.val at ER RC
              dsimp only at ER RC d0 d1 d2 d3 d4 d5 d6 d7 d8 ttx
              go_upto_region 15 with fail
              refine wp_region_held_drew (S := (fun w' => w'.cell? ⟨eb, eo + k * 9, none⟩ = some (.int .i64 th) ∧ w'.cell? ⟨eb, eo + k * 9 + 1, none⟩ = some (.bool pk) ∧ w'.cell? ⟨eb, eo + k * 9 + 2, none⟩ = some (.int .i64 kd) ∧ w'.cell? ⟨eb, eo + k * 9 + 3, none⟩ = some (.int .i64 tp) ∧ w'.cell? ⟨eb, eo + k * 9 + 4, none⟩ = some (.int .i64 gk) ∧ w'.cell? ⟨eb, eo + k * 9 + 5, none⟩ = some (.int .u64 gn) ∧ w'.cell? ⟨eb, eo + k * 9 + 6, none⟩ = some (.int .i64 md) ∧ w'.cell? ⟨eb, eo + k * 9 + 7, none⟩ = some (.string tx) ∧ w'.cell? ⟨eb, eo + k * 9 + 8, none⟩ = some (.int .u64 ps))) (by kernel_rfl) (⟨d0, d1, d2, d3, d4, d5, d6, d7, d8⟩) (fun hH0 => ?_)
              clear d0 d1 d2 d3 d4 d5 d6 d7 d8
              refine take_first 0 (some 77) ?_ rfl rfl (by kernel_rfl) (by kernel_rfl) (by kernel_rfl) (fun _ _ _ h => h) rfl ?hy hH0 ?_
              case hy => (intro w0 hS0; (try dsimp only at hS0); (try go_simp); try with_reducible rfl)
              try simp only [Act.put, List.setIfInBounds_toArray, List.set_cons_zero, List.set_cons_succ]
              refine take_first 1 (some 78) ?_ rfl rfl (by kernel_rfl) (by kernel_rfl) (by kernel_rfl) (fun _ _ _ h => h) rfl ?hy hH0 ?_
              case hy => (intro w0 hS0; (try dsimp only at hS0); (try go_simp); try with_reducible rfl)
              try simp only [Act.put, List.setIfInBounds_toArray, List.set_cons_zero, List.set_cons_succ]
              refine take_first 2 (some 79) ?_ rfl rfl (by kernel_rfl) (by kernel_rfl) (by kernel_rfl) (fun _ _ _ h => h) rfl ?hy hH0 ?_
              case hy => (intro w0 hS0; (try dsimp only at hS0); (try go_simp); try with_reducible rfl)
              try simp only [Act.put, List.setIfInBounds_toArray, List.set_cons_zero, List.set_cons_succ]
              refine take_first 3 (some 80) ?_ rfl rfl (by kernel_rfl) (by kernel_rfl) (by kernel_rfl) (fun _ _ _ h => h) rfl ?hy hH0 ?_
              case hy => (intro w0 hS0; (try dsimp only at hS0); (try go_simp); try with_reducible rfl)
              try simp only [Act.put, List.setIfInBounds_toArray, List.set_cons_zero, List.set_cons_succ]
              refine take_first 5 (some 82) ?_ rfl rfl (by kernel_rfl) (by kernel_rfl) (by kernel_rfl) (fun _ _ _ h => h) rfl ?hy hH0 ?_
              case hy => (intro w0 hS0; (try dsimp only at hS0); (try go_simp); try with_reducible rfl)
              try simp only [Act.put, List.setIfInBounds_toArray, List.set_cons_zero, List.set_cons_succ]
              refine take_first 6 (some 83) ?_ rfl rfl (by kernel_rfl) (by kernel_rfl) (by kernel_rfl) (fun _ _ _ h => h) rfl ?hy hH0 ?_
              case hy => (intro w0 hS0; (try dsimp only at hS0); (try go_simp); try with_reducible rfl)
              try simp only [Act.put, List.setIfInBounds_toArray, List.set_cons_zero, List.set_cons_succ]
              refine take_first 7 (some 84) ?_ rfl rfl (by kernel_rfl) (by kernel_rfl) (by kernel_rfl) (fun _ _ _ h => h) rfl ?hy hH0 ?_
              case hy => (intro w0 hS0; (try dsimp only at hS0); (try go_simp); try with_reducible rfl)
              try simp only [Act.put, List.setIfInBounds_toArray, List.set_cons_zero, List.set_cons_succ]
              refine take_first 8 (some 85) ?_ rfl rfl (by kernel_rfl) (by kernel_rfl) (by kernel_rfl) (fun _ _ _ h => h) rfl ?hy hH0 ?_
              case hy => (intro w0 hS0; (try dsimp only at hS0); (try go_simp); try with_reducible rfl)
              try simp only [Act.put, List.setIfInBounds_toArray, List.set_cons_zero, List.set_cons_succ]
              refine wpAnyH_ready (rs := [4]) (by kernel_rfl) (by simp) (AllReadyH.cons rfl (fun K hK => ?_) AllReadyH.nil)
              go_simp
              refine (ER _).out.mono ?_; rintro e w9 ⟨rfl, hbw9⟩
              have HB9 : Hid (Below w8.heap.size w8 w9) := Lib.hid (bseq (HI2.out.trans (Below.refl _ _).drew) hbw9)
              refine hK.out _ _ (⟨kcell hbw9 (hH0.1), kcell hbw9 (hH0.2.1), kcell hbw9 (hH0.2.2.1), kcell hbw9 (hH0.2.2.2.1), kcell hbw9 (hH0.2.2.2.2.1), kcell hbw9 (hH0.2.2.2.2.2.1), kcell hbw9 (hH0.2.2.2.2.2.2.1), kcell hbw9 (hH0.2.2.2.2.2.2.2.1), kcell hbw9 (hH0.2.2.2.2.2.2.2.2)⟩) (fun hH1 => ?_)
              clear hK hH0
              try simp only [Act.put, List.setIfInBounds_toArray, List.set_cons_zero, List.set_cons_succ]
              refine wpAnyH_ready (rs := [9]) (by kernel_rfl) (by simp) (AllReadyH.cons rfl (fun K hK => ?_) AllReadyH.nil)
              go_simp
              refine (RC _).out.mono ?_; rintro e w10 ⟨rfl, hbw10⟩
              have HB10 : Hid (Below w8.heap.size w8 w10) := Lib.hid (bseq (HB9.out) hbw10)
              refine hK.out _ _ (⟨kcell hbw10 (hH1.1), kcell hbw10 (hH1.2.1), kcell hbw10 (hH1.2.2.1), kcell hbw10 (hH1.2.2.2.1), kcell hbw10 (hH1.2.2.2.2.1), kcell hbw10 (hH1.2.2.2.2.2.1), kcell hbw10 (hH1.2.2.2.2.2.2.1), kcell hbw10 (hH1.2.2.2.2.2.2.2.1), kcell hbw10 (hH1.2.2.2.2.2.2.2.2)⟩) (fun hH2 => ?_)
              clear hK hH1
              try simp only [Act.put, List.setIfInBounds_toArray, List.set_cons_zero, List.set_cons_succ]
              refine take_first 10 (some 87) (.bool false) rfl rfl (by kernel_rfl) (by kernel_rfl) (by kernel_rfl) (fun _ _ _ h => h) rfl (by intro w0 hS0; (try dsimp only at hS0); go_simp) hH2 ?_
              try simp only [Act.put, List.setIfInBounds_toArray, List.set_cons_zero, List.set_cons_succ]
              refine wpAnyH_done (by kernel_rfl) ?_ _
              obtain ⟨d0, d1, d2, d3, d4, d5, d6, d7, d8⟩ := hH2
              clear hbw9 hbw10
              cases fb with
              | true =>
                go_wp2_with fail
                refine (RC _).out.mono ?_; rintro e w11 ⟨rfl, hbw11⟩
                have Hw11 : Hid (Below w8.heap.size w8 w11) := Lib.hid (bseq HB10.out hbw11)
                have e0 := kcell hbw11 d0
                have e1 := kcell hbw11 d1
                have e2 := kcell hbw11 d2
                have e3 := kcell hbw11 d3
                have e4 := kcell hbw11 d4
                have e5 := kcell hbw11 d5
                have e6 := kcell hbw11 d6
                have e7 := kcell hbw11 d7
                have e8 := kcell hbw11 d8
                clear hbw11 d0 d1 d2 d3 d4 d5 d6 d7 d8
                go_wp2_with fail
                refine (RC _).out.mono ?_; rintro e w12 ⟨rfl, hbw12⟩
                have Hw12 : Hid (Below w8.heap.size w8 w12) := Lib.hid (bseq Hw11.out hbw12)
                have d0 := kcell hbw12 e0
                have d1 := kcell hbw12 e1
                have d2 := kcell hbw12 e2
                have d3 := kcell hbw12 e3
                have d4 := kcell hbw12 e4
                have d5 := kcell hbw12 e5
                have d6 := kcell hbw12 e6
                have d7 := kcell hbw12 e7
                have d8 := kcell hbw12 e8
                clear hbw12 e0 e1 e2 e3 e4 e5 e6 e7 e8
                clear d0 d1 d2 d3 d4 d5 d6 d7 d8
                go_wp2
                go_roundg (m - (k + 1))
                case measure => omega
                case rel => exact ⟨k + 1, false, _, rfl, rfl, by omega, rfl, by go_num, HNF, HNS, Hw12⟩
              | false =>
                go_wp2_with fail
                refine (RC _).out.mono ?_; rintro e w12 ⟨rfl, hbw12⟩
                have Hw12 : Hid (Below w8.heap.size w8 w12) := Lib.hid (bseq HB10.out hbw12)
                have e0 := kcell hbw12 d0
                have e1 := kcell hbw12 d1
                have e2 := kcell hbw12 d2
                have e3 := kcell hbw12 d3
                have e4 := kcell hbw12 d4
                have e5 := kcell hbw12 d5
                have e6 := kcell hbw12 d6
                have e7 := kcell hbw12 d7
                have e8 := kcell hbw12 d8
                clear hbw12 d0 d1 d2 d3 d4 d5 d6 d7 d8
                clear e0 e1 e2 e3 e4 e5 e6 e7 e8
                go_wp2
                go_roundg (m - (k + 1))
                case measure => omega
                case rel => exact ⟨k + 1, false, _, rfl, rfl, by omega, rfl, by go_num, HNF, HNS, Hw12⟩
          · have ttx : decide ((1000 : Int) < (en.text.size : Int)) = true := by simp; omega
            clear hek hem htx
            obtain ⟨th, pk, kd, tp, gk, gn, md, tx, ps⟩ := en
            dsimp only at d0 d1 d2 d3 d4 d5 d6 d7 d8 ttx
            go_wp2
            go_ret
            exact ⟨rfl, HFINAL.out _ (bseq HB18.out HI2.out)⟩
        · obtain rfl : m = k := by omega
          clear hlt
          have HB1R := Lib.hid (bseq HB18.out HI2.out)
          have hbx := HBX.out.chg (chg_of_below (fun _ => False) HB1R.out) (fun h => h)
          obtain ⟨c0, c1, c2, c3, c4⟩ := conf_cells hbx
          have his := HI1.out.below HB1R.out
          have htk : es.take m = es := List.take_of_length_le (by rw [HEM.out]; exact Nat.le_refl _)
          have hfb := HFB.out
          have hsk := HSK.out
          rw [htk] at hfb hsk
          cases fb with
          | true =>
            have hfc : fc = true ∧ es.all En.rightB = true := by simpa using hfb.symm
            have hcf := HFC.out.trans hfc.1
            have hwp := want_put hcf HSW.out hfc.2
            rw [HEM.out, ← HLB.out] at hwp
            rw [hwp] at hsk
            have hlen := B7.out.app (putR_bl es (HES8.out.2.2.2.1))
            have hP := sput_ok t A n cap words blocks sweep E m mcap zs es wr his HESR.out hcf hfc.2 (by omega) HSW.out (by rw [← hwp]; have h1 := hlen.2; have h2 := HEM.out; omega)
            have HP := Lib.hid hP
            obtain ⟨bs, hbs⟩ : ∃ b, putS t words blocks sweep zs es = b := ⟨_, rfl⟩
            rw [hbs] at HP hsk
            have hbl : ∀ x ∈ bs, x < 256 := by rw [← hbs]; exact put_lt
            have HBL := Lib.hid hbl
            have HSKB := Lib.hid hsk
            clear hfc hcf hwp hlen hP hbs hbl hsk hfb htk hbx his HFB HSK
            unfold scriptV at HP
            go_wp2_with fail
            refine HP.out.mono ?_; rintro r w9 ⟨vx, rfl, hown, hb9⟩
            obtain ⟨Ax, nx, kx, hvx⟩ := own_slice hown
            subst hvx
            have hcx := bs_string (own_bsat hown HBL.out).1
            rw [← HSKB.out] at hcx
            have HB9 := Lib.hid (bseq HB1R.out hb9)
            clear hown hb9 c0 c1 c2 c3 c4 HP
            go_wp2_with fail
            refine (one_calls _).mono ?_; rintro e w10 ⟨rfl, hb10⟩
            have HB10 := Lib.hid (bseq HB9.out hb10)
            clear hb10 hcx
            go_wp2
            go_ret
            exact ⟨rfl, HFINAL.out _ HB10.out⟩
          | false =>
            have hP : Calls Try.prog 13 #[scriptV t A n cap words blocks sweep E m mcap] wr fun r w' => r = .returned (.tuple #[.slice none 0 0, .int .i64 2]) ∧ Below wr.heap.size wr w' := by
              cases hfc : fc with
              | false => exact sput_conf t A n cap words blocks sweep E m mcap zs wr his (HFC.out.trans hfc)
              | true =>
                rw [hfc, Bool.true_and] at hfb
                exact sput_bad t A n cap words blocks sweep E m mcap zs es wr his HESR.out (HFC.out.trans hfc) hfb.symm
            have HP := Lib.hid hP
            clear hP hsk hfb htk hbx his HFB HSK
            unfold scriptV at HP
            go_wp2_with fail
            refine HP.out.mono ?_; rintro r w9 ⟨rfl, hb9⟩
            have HB9 := Lib.hid (bseq HB1R.out hb9)
            clear hb9 c0 c1 c2 c3 c4 HP
            go_wp2_with fail
            refine (one_calls _).mono ?_; rintro e w10 ⟨rfl, hb10⟩
            have HB10 := Lib.hid (bseq HB9.out hb10)
            clear hb10
            go_wp2
            go_ret
            exact ⟨rfl, HFINAL.out _ HB10.out⟩
end Go.Proofs.Ytgfingdopelinaa
