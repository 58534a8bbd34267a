/- the walk of ScriptReads. (Printed by genreads.py.) -/
import Derived.Test.YtgfingdopelinaaScNum
import Derived.Test.YtgfingdopelinaaScEq
namespace Go.Proofs.Ytgfingdopelinaa
set_option linter.unusedSimpArgs false
set_option linter.unusedVariables false
open Go.RowKit Go.Deep

theorem bs_atlt {w : World} {A : Option Addr} {n cap : Nat} {bs : List Nat} (h : BsAt w A n cap bs) (h0 : 0 < n) : AtLt A w.heap.size := by
  obtain ⟨b, off, rfl, hc⟩ := h.2.2.2.2.1 h0
  intro a e
  injection e with e
  subst e
  exact World.block_lt_of_cell? w _ (hc 0 h0)
set_option maxRecDepth 100000 in
set_option maxHeartbeats 8000000 in
theorem scriptReads_walk (A : Option Addr) (len cap : Nat) (bs : List Nat) (W : World) (hl : BsAt W A len cap bs) :
    Calls Try.prog 5 #[.slice A len cap] W fun e w' => e = .returned (.bool true) ∧ Below W.heap.size W w' := by
  have H := Lib.hid hl
  by_cases hlen : len ≤ 3000
  · have t0 : decide ((3000 : Int) < (len : Int)) = false := by simp; omega
    have HLEN := Lib.hid hlen
    have HRD := Lib.hid (read_calls A len cap bs W hl (bs_atlt hl) (by omega))
    clear hl hlen
    cases hok : rdOk bs with
    | false =>
      have HOK := Lib.hid hok
      clear hok
      go_enter Try.func5, Try.ntmps5
      go_wp2_with fail
      refine HRD.out.mono ?_; rintro r w1 hpost
      unfold ReadPost at hpost
      obtain ⟨hno, _, hb1⟩ := hpost
      have hr := hno HOK.out
      unfold zscriptV at hr
      subst hr
      have HB1 := Lib.hid hb1
      clear hno hb1
      go_wp2_with (first | (go_at_call 14; refine (one_calls _).mono ?_; rintro e w9 ⟨rfl, hb9⟩; have HB9 := Lib.hid hb9; clear hb9))
      go_ret
      exact ⟨rfl, bseq (bnew HB1.out _) HB9.out⟩
    | true =>
      obtain ⟨hput, hen, hm⟩ := read_put H.out.2.2.2.1 hok
      have hcf : confB ((rdA bs).1 : Nat) ((rdW bs).1 : Nat) ((rdB bs).1 : Nat) ((rdS bs).1 : Nat) (toInts (rdT bs).1) = true ∧ (rdS bs).1 < 9223372036854775808 := by
        have h := hok
        unfold rdOk at h
        simp only [Bool.and_eq_true, decide_eq_true_eq] at h
        exact ⟨h.2, h.1.2⟩
      have HPUT := Lib.hid hput
      have HEN := Lib.hid hen
      have HM := Lib.hid hm
      have HCF := Lib.hid hcf
      have HOK := Lib.hid hok
      clear hput hen hm hcf hok
      go_enter Try.func5, Try.ntmps5
      go_wp2_with fail
      refine HRD.out.mono ?_; rintro r w1 hpost
      unfold ReadPost at hpost
      obtain ⟨_, hyes, hb1⟩ := hpost
      obtain ⟨AT, nT, cT, E, m, ke, hr, hIs, hEs⟩ := hyes HOK.out
      unfold scriptV at hr
      subst hr
      have HIS := Lib.hid hIs
      have HES := Lib.hid (hEs (fun e he => ⟨(enok_clean (HEN.out e he)).2.2.1, (enok_clean (HEN.out e he)).2.2.2⟩))
      have HB1 := Lib.hid hb1
      clear hyes hIs hEs hb1
      obtain ⟨xa, hxa⟩ : ∃ x, (rdA bs).1 = x := ⟨_, rfl⟩
      obtain ⟨xw, hxw⟩ : ∃ x, (rdW bs).1 = x := ⟨_, rfl⟩
      obtain ⟨xb, hxb⟩ : ∃ x, (rdB bs).1 = x := ⟨_, rfl⟩
      obtain ⟨xs, hxs⟩ : ∃ x, (rdS bs).1 = x := ⟨_, rfl⟩
      obtain ⟨zs, hzs⟩ : ∃ x, toInts (rdT bs).1 = x := ⟨_, rfl⟩
      obtain ⟨es, hes⟩ : ∃ x, (rdE bs).1 = x := ⟨_, rfl⟩
      rw [hxa, hxw, hxb, hxs]
      rw [hxa, hxw, hxb, hxs, hzs, hes] at HPUT
      rw [hxa, hxw, hxb, hxs, hzs] at HCF
      rw [hes] at HEN HM HES
      rw [hzs] at HIS
      clear hxa hxw hxb hxs hzs hes HRD HOK
      have hm64 : m ≤ 65536 := by have := HM.out; have := HES.out.1; omega
      go_upto_region 4 with fail
      have HSB := Lib.hid (Blk.new w1 46 [.int .i64 (xa : Nat), .slice AT nT cT, .int .i64 (xw : Nat), .int .i64 (xb : Nat), .int .i64 (xs : Nat), .slice E m ke])
      have HB2 : Hid (Below W.heap.size W (w1.alloc (.cells #[.int .i64 (xa : Nat), .slice AT nT cT, .int .i64 (xw : Nat), .int .i64 (xb : Nat), .int .i64 (xs : Nat), .slice E m ke] 46))) := Lib.hid (bnew HB1.out _)
      have hb12 : Below w1.heap.size w1 (w1.alloc (.cells #[.int .i64 (xa : Nat), .slice AT nT cT, .int .i64 (xw : Nat), .int .i64 (xb : Nat), .int .i64 (xs : Nat), .slice E m ke] 46)) := bnew (Below.refl _ _) _
      have HIS2 := Lib.hid (HIS.out.below hb12)
      have HES2 := Lib.hid (HES.out.below hb12)
      clear hb12
      generalize w1.alloc (.cells #[.int .i64 (xa : Nat), .slice AT nT cT, .int .i64 (xw : Nat), .int .i64 (xb : Nat), .int .i64 (xs : Nat), .slice E m ke] 46) = w2 at HSB HB2 HIS2 HES2 ⊢
      generalize w1.heap.size = sb at HSB ⊢
      have HP := Lib.hid (sput_ok (xa : Nat) AT nT cT (xw : Nat) (xb : Nat) (xs : Nat) E m ke zs es w2 HIS2.out HES2.out HCF.out.1 (by
        rw [List.all_eq_true]; intro e he; exact (enok_clean (HEN.out e he)).2.1) hm64 (by have := HCF.out.2; omega) (by rw [← HPUT.out, H.out.1]; have := HLEN.out; omega))
      rw [← HPUT.out] at HP
      obtain ⟨c0, c1, c2, c3, c4, c5⟩ := script_cells HSB.out
      unfold scriptV at HP
      go_wp2_with fail
      refine HP.out.mono ?_; rintro r w3 ⟨vx, rfl, hown, hb3⟩
      obtain ⟨Ax, nx, kx, hvx⟩ := own_slice hown
      subst hvx
      have HBX := Lib.hid (own_bsat hown H.out.2.2.2.1).1
      have HB3 := Lib.hid (bseq HB2.out hb3)
      have HSB3 := Lib.hid (HSB.out.chg (chg_of_below (fun _ => False) hb3) (fun h => h))
      have HIS3 := Lib.hid (HIS2.out.below hb3)
      have HES3 := Lib.hid (HES2.out.below hb3)
      have H3 := Lib.hid (H.out.below HB3.out)
      clear hown hb3 c0 c1 c2 c3 c4 c5 HP
      go_wp2_with fail
      go_loopg [7] m (fun g i wr => ∃ k : Nat, k ≤ m ∧ g = m - k ∧ i = .int .i64 k ∧ Hid (Below w3.heap.size w3 wr))
      case atStart => exact ⟨0, by omega, rfl, rfl, Lib.hid (Below.refl _ _)⟩
      case round =>
        obtain ⟨k, hk, rfl, rfl, HI⟩ := hrel
        obtain ⟨c0, c1, c2, c3, c4, c5⟩ := script_cells (HSB3.out.chg (chg_of_below (fun _ => False) HI.out) (fun h => h))
        by_cases hlt : k < m
        · obtain ⟨en, hek⟩ : ∃ e, es.getD k enZero = e := ⟨_, rfl⟩
          obtain ⟨eb, eo, hE, d0, d1, d2, d3, d4, d5, d6, d7, d8⟩ := (HES3.out.below HI.out).cells hlt hek
          subst hE
          have hem : en ∈ es := by
            rw [← hek, List.getD, List.getElem?_eq_getElem (by rw [HES3.out.1]; exact hlt)]
            exact List.getElem_mem _
          have hok := enok_clean (HEN.out en hem)
          have HRC := fun W => Lib.hid (eright_calls en W)
          have HCL := fun W => Lib.hid (clean_calls en W)
          simp only [hok.2.1] at HRC
          simp only [hok.1] at HCL
          clear hek hem hok c0 c1 c2 c3 c4
          obtain ⟨th, pk, kd, tp, gk, gn, md, tx, ps⟩ := en
          unfold En.val at HRC HCL
          dsimp only at HRC HCL d0 d1 d2 d3 d4 d5 d6 d7 d8
          go_upto_region 10 with fail
          refine wp_region_held_drew (S := (fun w' => w'.cell? ⟨sb, 5, none⟩ = some (.slice (some ⟨eb, eo, none⟩) m ke) ∧ w'.cell? ⟨eb, eo + k * 9, none⟩ = some (.int .i64 th) ∧ w'.cell? ⟨eb, eo + k * 9 + 1, none⟩ = some (.bool pk) ∧ w'.cell? ⟨eb, eo + k * 9 + 2, none⟩ = some (.int .i64 kd) ∧ w'.cell? ⟨eb, eo + k * 9 + 3, none⟩ = some (.int .i64 tp) ∧ w'.cell? ⟨eb, eo + k * 9 + 4, none⟩ = some (.int .i64 gk) ∧ w'.cell? ⟨eb, eo + k * 9 + 5, none⟩ = some (.int .u64 gn) ∧ w'.cell? ⟨eb, eo + k * 9 + 6, none⟩ = some (.int .i64 md) ∧ w'.cell? ⟨eb, eo + k * 9 + 7, none⟩ = some (.string tx) ∧ w'.cell? ⟨eb, eo + k * 9 + 8, none⟩ = some (.int .u64 ps))) (by kernel_rfl) (⟨c5, d0, d1, d2, d3, d4, d5, d6, d7, d8⟩) (fun hH0 => ?_)
          refine take_first 0 (some 47) ?_ rfl rfl (by kernel_rfl) (by kernel_rfl) (by kernel_rfl) (fun _ _ _ h => h) rfl ?hy hH0 ?_
          case hy => (intro w0 hS0; (try dsimp only at hS0); (try go_simp); try with_reducible rfl)
          try simp only [Act.put, List.setIfInBounds_toArray, List.set_cons_zero, List.set_cons_succ]
          refine take_first 1 (some 48) ?_ rfl rfl (by kernel_rfl) (by kernel_rfl) (by kernel_rfl) (fun _ _ _ h => h) rfl ?hy hH0 ?_
          case hy => (intro w0 hS0; (try dsimp only at hS0); (try go_simp); try with_reducible rfl)
          try simp only [Act.put, List.setIfInBounds_toArray, List.set_cons_zero, List.set_cons_succ]
          refine take_first 2 (some 49) ?_ rfl rfl (by kernel_rfl) (by kernel_rfl) (by kernel_rfl) (fun _ _ _ h => h) rfl ?hy hH0 ?_
          case hy => (intro w0 hS0; (try dsimp only at hS0); (try go_simp); try with_reducible rfl)
          try simp only [Act.put, List.setIfInBounds_toArray, List.set_cons_zero, List.set_cons_succ]
          refine take_first 3 (some 50) ?_ rfl rfl (by kernel_rfl) (by kernel_rfl) (by kernel_rfl) (fun _ _ _ h => h) rfl ?hy hH0 ?_
          case hy => (intro w0 hS0; (try dsimp only at hS0); (try go_simp); try with_reducible rfl)
          try simp only [Act.put, List.setIfInBounds_toArray, List.set_cons_zero, List.set_cons_succ]
          refine take_first 4 (some 51) ?_ rfl rfl (by kernel_rfl) (by kernel_rfl) (by kernel_rfl) (fun _ _ _ h => h) rfl ?hy hH0 ?_
          case hy => (intro w0 hS0; (try dsimp only at hS0); (try go_simp); try with_reducible rfl)
          try simp only [Act.put, List.setIfInBounds_toArray, List.set_cons_zero, List.set_cons_succ]
          refine wpAnyH_ready (rs := [5]) (by kernel_rfl) (by simp) (AllReadyH.cons rfl (fun K hK => ?_) AllReadyH.nil)
          go_simp
          refine (HRC _).out.mono ?_; rintro e w4 ⟨rfl, hb4⟩
          have HB4 : Hid (Below w3.heap.size w3 w4) := Lib.hid (bseq (HI.out.trans (Below.refl _ wr).drew) hb4)
          refine hK.out _ _ (⟨kcell hb4 (hH0.1), kcell hb4 (hH0.2.1), kcell hb4 (hH0.2.2.1), kcell hb4 (hH0.2.2.2.1), kcell hb4 (hH0.2.2.2.2.1), kcell hb4 (hH0.2.2.2.2.2.1), kcell hb4 (hH0.2.2.2.2.2.2.1), kcell hb4 (hH0.2.2.2.2.2.2.2.1), kcell hb4 (hH0.2.2.2.2.2.2.2.2.1), kcell hb4 (hH0.2.2.2.2.2.2.2.2.2)⟩) (fun hH1 => ?_)
          clear hK hH0
          try simp only [Act.put, List.setIfInBounds_toArray, List.set_cons_zero, List.set_cons_succ]
          refine take_first 6 (some 53) (.bool false) rfl rfl (by kernel_rfl) (by kernel_rfl) (by kernel_rfl) (fun _ _ _ h => h) rfl (by intro w0 hS0; (try dsimp only at hS0); go_simp) hH1 ?_
          try simp only [Act.put, List.setIfInBounds_toArray, List.set_cons_zero, List.set_cons_succ]
          refine take_first 7 (some 54) (.bool false) rfl rfl (by kernel_rfl) (by kernel_rfl) (by kernel_rfl) (fun _ _ _ h => h) rfl (by intro w0 hS0; (try dsimp only at hS0); go_simp) hH1 ?_
          try simp only [Act.put, List.setIfInBounds_toArray, List.set_cons_zero, List.set_cons_succ]
          refine take_first 8 (some 55) ?_ rfl rfl (by kernel_rfl) (by kernel_rfl) (by kernel_rfl) (fun _ _ _ h => h) rfl ?hy hH1 ?_
          case hy => (intro w0 hS0; (try dsimp only at hS0); (try go_simp); try with_reducible rfl)
          try simp only [Act.put, List.setIfInBounds_toArray, List.set_cons_zero, List.set_cons_succ]
          refine take_first 9 (some 56) ?_ rfl rfl (by kernel_rfl) (by kernel_rfl) (by kernel_rfl) (fun _ _ _ h => h) rfl ?hy hH1 ?_
          case hy => (intro w0 hS0; (try dsimp only at hS0); (try go_simp); try with_reducible rfl)
          try simp only [Act.put, List.setIfInBounds_toArray, List.set_cons_zero, List.set_cons_succ]
          refine take_first 10 (some 57) ?_ rfl rfl (by kernel_rfl) (by kernel_rfl) (by kernel_rfl) (fun _ _ _ h => h) rfl ?hy hH1 ?_
          case hy => (intro w0 hS0; (try dsimp only at hS0); (try go_simp); try with_reducible rfl)
          try simp only [Act.put, List.setIfInBounds_toArray, List.set_cons_zero, List.set_cons_succ]
          refine take_first 11 (some 58) ?_ rfl rfl (by kernel_rfl) (by kernel_rfl) (by kernel_rfl) (fun _ _ _ h => h) rfl ?hy hH1 ?_
          case hy => (intro w0 hS0; (try dsimp only at hS0); (try go_simp); try with_reducible rfl)
          try simp only [Act.put, List.setIfInBounds_toArray, List.set_cons_zero, List.set_cons_succ]
          refine take_first 12 (some 59) ?_ rfl rfl (by kernel_rfl) (by kernel_rfl) (by kernel_rfl) (fun _ _ _ h => h) rfl ?hy hH1 ?_
          case hy => (intro w0 hS0; (try dsimp only at hS0); (try go_simp); try with_reducible rfl)
          try simp only [Act.put, List.setIfInBounds_toArray, List.set_cons_zero, List.set_cons_succ]
          refine take_first 13 (some 60) ?_ rfl rfl (by kernel_rfl) (by kernel_rfl) (by kernel_rfl) (fun _ _ _ h => h) rfl ?hy hH1 ?_
          case hy => (intro w0 hS0; (try dsimp only at hS0); (try go_simp); try with_reducible rfl)
          try simp only [Act.put, List.setIfInBounds_toArray, List.set_cons_zero, List.set_cons_succ]
          refine take_first 14 (some 61) ?_ rfl rfl (by kernel_rfl) (by kernel_rfl) (by kernel_rfl) (fun _ _ _ h => h) rfl ?hy hH1 ?_
          case hy => (intro w0 hS0; (try dsimp only at hS0); (try go_simp); try with_reducible rfl)
          try simp only [Act.put, List.setIfInBounds_toArray, List.set_cons_zero, List.set_cons_succ]
          refine take_first 15 (some 62) ?_ rfl rfl (by kernel_rfl) (by kernel_rfl) (by kernel_rfl) (fun _ _ _ h => h) rfl ?hy hH1 ?_
          case hy => (intro w0 hS0; (try dsimp only at hS0); (try go_simp); try with_reducible rfl)
          try simp only [Act.put, List.setIfInBounds_toArray, List.set_cons_zero, List.set_cons_succ]
          refine take_first 16 (some 63) ?_ rfl rfl (by kernel_rfl) (by kernel_rfl) (by kernel_rfl) (fun _ _ _ h => h) rfl ?hy hH1 ?_
          case hy => (intro w0 hS0; (try dsimp only at hS0); (try go_simp); try with_reducible rfl)
          try simp only [Act.put, List.setIfInBounds_toArray, List.set_cons_zero, List.set_cons_succ]
          refine take_first 17 (some 64) ?_ rfl rfl (by kernel_rfl) (by kernel_rfl) (by kernel_rfl) (fun _ _ _ h => h) rfl ?hy hH1 ?_
          case hy => (intro w0 hS0; (try dsimp only at hS0); (try go_simp); try with_reducible rfl)
          try simp only [Act.put, List.setIfInBounds_toArray, List.set_cons_zero, List.set_cons_succ]
          refine wpAnyH_ready (rs := [18]) (by kernel_rfl) (by simp) (AllReadyH.cons rfl (fun K hK => ?_) AllReadyH.nil)
          go_simp
          refine (HCL _).out.mono ?_; rintro e w5 ⟨rfl, hb5⟩
          have HB5 : Hid (Below w3.heap.size w3 w5) := Lib.hid (bseq HB4.out hb5)
          refine hK.out _ _ (⟨kcell hb5 (hH1.1), kcell hb5 (hH1.2.1), kcell hb5 (hH1.2.2.1), kcell hb5 (hH1.2.2.2.1), kcell hb5 (hH1.2.2.2.2.1), kcell hb5 (hH1.2.2.2.2.2.1), kcell hb5 (hH1.2.2.2.2.2.2.1), kcell hb5 (hH1.2.2.2.2.2.2.2.1), kcell hb5 (hH1.2.2.2.2.2.2.2.2.1), kcell hb5 (hH1.2.2.2.2.2.2.2.2.2)⟩) (fun hH2 => ?_)
          clear hK hH1
          try simp only [Act.put, List.setIfInBounds_toArray, List.set_cons_zero, List.set_cons_succ]
          refine take_first 19 (some 66) (.bool false) rfl rfl (by kernel_rfl) (by kernel_rfl) (by kernel_rfl) (fun _ _ _ h => h) rfl (by intro w0 hS0; (try dsimp only at hS0); go_simp) hH2 ?_
          try simp only [Act.put, List.setIfInBounds_toArray, List.set_cons_zero, List.set_cons_succ]
          refine take_first 20 (some 67) (.bool false) rfl rfl (by kernel_rfl) (by kernel_rfl) (by kernel_rfl) (fun _ _ _ h => h) rfl (by intro w0 hS0; (try dsimp only at hS0); go_simp) hH2 ?_
          try simp only [Act.put, List.setIfInBounds_toArray, List.set_cons_zero, List.set_cons_succ]
          refine wpAnyH_done (by kernel_rfl) ?_ _
          clear d0 d1 d2 d3 d4 d5 d6 d7 d8 c5 hb4 hb5 hH2
          go_wp2
          go_roundg (m - (k + 1))
          case measure => omega
          case rel => exact ⟨k + 1, by omega, rfl, by go_num, HB5⟩
        · obtain rfl : m = k := by omega
          clear hlt
          have hcx := bs_string (HBX.out.below HI.out)
          have hcb := bs_string (H3.out.below HI.out)
          have hcr := cright_calls (xa : Nat) AT nT cT (xw : Nat) (xb : Nat) (xs : Nat) zs wr (HIS3.out.below HI.out)
          rw [HCF.out.1] at hcr
          unfold confV at hcr
          have HCR := Lib.hid hcr
          have HBF := Lib.hid (bseq HB3.out HI.out)
          clear hcr
          generalize strOf bs = sbs at hcx hcb
          go_wp2_with fail
          refine HCR.out.mono ?_; rintro e w8 ⟨rfl, hb8⟩
          have HB8 := Lib.hid (bseq HBF.out hb8)
          clear hb8 hcx hcb c0 c1 c2 c3 c4 c5
          go_wp2_with (first | (go_at_call 14; refine (one_calls _).mono ?_; rintro e w9 ⟨rfl, hb9⟩; have HB9 := Lib.hid hb9; clear hb9))
          go_ret
          exact ⟨rfl, bseq HB8.out HB9.out⟩
  · have t0 : decide ((3000 : Int) < (len : Int)) = true := by simp; omega
    clear hl hlen
    go_enter Try.func5, Try.ntmps5
    go_wp2
    go_ret
    exact ⟨rfl, Below.refl _ _⟩
end Go.Proofs.Ytgfingdopelinaa
