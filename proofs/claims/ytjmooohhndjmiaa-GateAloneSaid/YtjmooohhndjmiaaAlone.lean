/- the walk of GateAlone. -/
import Derived.Test.YtjmooohhndjmiaaAlS
import Derived.Test.YtjmooohhndjmiaaGatO
import Derived.Deep.CutBlock
import Derived.Deep.DeepCutAuto
import Derived.Deep.LoopGhost
namespace Go.Proofs.Ytjmooohhndjmiaa
open Go.RowKit Go.Deep
set_option linter.unusedVariables false
set_option linter.unusedSimpArgs false

set_option maxHeartbeats 8000000 in
set_option maxRecDepth 100000 in
theorem gateAlone_walk (A : Option Addr) (len cap : Nat) (l : List (List Int)) (A' : Option Addr) (len' cap' : Nat) (l' : List (List Int)) (W : World) (hl : RowsAt W [.i64, .i64, .u64] A len cap l) (hl' : RowsAt W [.u64] A' len' cap' l') :
    Calls Try.prog 4 #[.slice A len cap, .slice A' len' cap'] W fun e w' => e = .returned (.bool true) ∧ Below W.heap.size W w' := by
  have hlen : len ≤ 9223372036854775807 := by have := hl.2.1; have := hl.2.2.1; omega
  have hlen' : len' ≤ 9223372036854775807 := by have := hl'.2.1; have := hl'.2.2.1; omega
  have HLR := Lib.hid hl
  have HLP := Lib.hid hl'
  clear hl hl'
  obtain ⟨W1, hW⟩ : ∃ W1, W1 = W.alloc (.cells #[.int .i64 1, .int .i64 4, .int .i64 0] 25) := ⟨_, rfl⟩
  have hbox : Blk W1 W.heap.size 25 [.int .i64 1, .int .i64 4, .int .i64 0] := by rw [hW]; exact blk_new W _ _ _ rfl
  have hbe : Below W.heap.size W W1 := by rw [hW]; exact bnew (Below.refl _ _) _
  have HB := Lib.hid (And.intro hbox hbe)
  clear hbox hbe
  go_enter Try.func4, Try.ntmps4
  go_wp2_with fail
  rw [← hW]
  clear hW
  refine (new_calls 6 W1 (by decide) (by decide)).mono ?_; rintro e w1 ⟨b, bw, bb, rfl, hm, h1, h2, h3, hb⟩
  have hs := gsys_new (w0 := W) (A := 1) (M := 4) (C := 0) HB.out.2 (Nat.le_refl _) HB.out.1 hm h1 h2 h3 hb
  have H1 : Hid (GSys W w1 W.heap.size 1 4 0 b bw bb (List.replicate 6 0)) := Lib.hid hs
  have x0 : w1.cell? ⟨W.heap.size, 0, none⟩ = some (.int .i64 1) := hs.box.cell 0
  have x1 : w1.cell? ⟨W.heap.size, 1, none⟩ = some (.int .i64 4) := hs.box.cell 1
  have x2 : w1.cell? ⟨W.heap.size, 2, none⟩ = some (.int .i64 0) := hs.box.cell 2
  clear hs hm h1 h2 h3 hb HB
  go_wp2_with fail
  refine (g_setup H1.out gok14 (by decide) (by decide)).mono ?_; rintro e w2 ⟨rfl, hs⟩
  have HS0 := Lib.hid (AlSt.start hs)
  clear hs x0 x1 x2 H1
  have hmk := @run_makeMap Try.prog
  go_wp2_with fail
  clear hmk
  generalize w2.alloc (.map #[] 0) = w3 at HS0 ⊢
  generalize w2.heap.size = bm at HS0 ⊢
  go_loopg [9, 10] 40 (fun gg vc i wr => ∃ (j c m : Nat) (r : List Nat), j ≤ len ∧ j ≤ 40 ∧ gg = 40 - j ∧ vc = .int .u64 c ∧ i = .int .i64 j ∧ Hid (AlSt W wr b bw bb bm j c m r r m))
  case atStart => exact ⟨0, 0, 0, [0, 0, 0, 0], Nat.zero_le _, Nat.zero_le _, rfl, rfl, rfl, HS0⟩
  case round =>
    obtain ⟨j, c, m, r, hj1, hj2, rfl, rfl, rfl, HI⟩ := hrel
    clear HS0
    by_cases hlt : j < len
    · by_cases h40 : j < 40
      · have i40 : (j : Int) < 40 := by omega
        obtain ⟨bl, ol, z, k0, v, rfl, hc0, hc1, hc2, hv, _⟩ := ask3 (HLR.out.below HI.out.sys.below) hlt
        obtain ⟨k, hk⟩ : ∃ k : Nat, k0 % 4 = k := ⟨(k0 % 4).toNat, by omega⟩
        have hand : bits .and .i64 k0 3 = (k : Int) := by rw [and3, hk]
        have hk4 : k < 4 := by omega
        have HK4 := Lib.hid hk4
        have HV := Lib.hid hv
        clear hk hk4 hv
        have HR0 := Lib.hid (HI.out.ask z k v)
        go_upto_region 12 with fail
        clear hc0 hc1 hc2 hand
        generalize wr.alloc (.cells #[.int .i64 z, .int .i64 (k : Int), .int .u64 (v : Int)] 42) = w4 at HR0 ⊢
        generalize wr.heap.size = ba at HR0 ⊢
        clear HI
        go_cut [57] (fun b57 wx => b57 = .bool (decide (j < len')) ∧ wx = w4)
        case first =>
          by_cases hjc : j < len'
          · have t57 : decide (j < len') = true := by simp [hjc]
            go_wp2
            go_meet
            case rel => exact ⟨t57.symm ▸ rfl, rfl⟩
          · have t57 : decide (j < len') = false := by simp; omega
            go_wp2
            go_meet
            case rel => exact ⟨t57.symm ▸ rfl, rfl⟩
        case rest =>
          obtain ⟨rfl, rfl⟩ := hcut
          go_upto_if 57 with fail
          go_cut [9] (fun v9 wx => ∃ c1 : Nat, v9 = .int .u64 c1 ∧ Hid (AlR W wx b bw bb bm ba j c1 m r r m z k v))
          case first =>
            by_cases hjc : j < len'
            · obtain ⟨bc, oc, x, rfl, hcx, hx⟩ := num_cell64 (HLP.out.below HR0.out.st.sys.below) hjc
              have HX := Lib.hid hx
              have t57 : decide (j < len') = true := by simp [hjc]
              clear hx
              go_wp2_with fail
              refine (g_store 0 x HR0.out.st.sys (by show 0 < _ + 1; omega) HX.out).mono ?_; rintro e w5 ⟨rfl, hs, hc⟩
              have HQ1 := Lib.hid (HR0.out.now hs hc)
              clear hs hc hcx HR0
              go_wp2
              go_meet
              case rel => exact ⟨x, rfl, HQ1⟩
            · have t57 : decide (j < len') = false := by simp; omega
              go_wp2
              go_meet
              case rel => exact ⟨c, rfl, HR0⟩
          case rest =>
            obtain ⟨c1, rfl, HQ1⟩ := hcut
            clear HR0
            obtain ⟨q0, q1, q2⟩ : wc.cell? ⟨ba, 0, none⟩ = some (.int .i64 z) ∧ wc.cell? ⟨ba, 1, none⟩ = some (.int .i64 (k : Int)) ∧ wc.cell? ⟨ba, 2, none⟩ = some (.int .u64 (v : Int)) := ⟨HQ1.out.box.cell 0, HQ1.out.box.cell 1, HQ1.out.box.cell 2⟩
            have y0 : wc.cell? ⟨W.heap.size, 0, none⟩ = some (.int .i64 1) := HQ1.out.st.sys.box.cell 0
            have y1 : wc.cell? ⟨W.heap.size, 1, none⟩ = some (.int .i64 4) := HQ1.out.st.sys.box.cell 1
            have y2 : wc.cell? ⟨W.heap.size, 2, none⟩ = some (.int .i64 0) := HQ1.out.st.sys.box.cell 2
            have HC64 := Lib.hid HQ1.out.st.c64
            have HLE : Hid (1 + 1 + 4 ≤ (c1 :: m :: r).length ∧ 0 < (c1 :: m :: r).length) := Lib.hid (by have := HQ1.out.st.lr; simp only [List.length_cons]; omega)
            have HASK := Lib.hid (g_ask z k v HQ1.out.st.sys gok14 HK4.out)
            by_cases hz : z = 0
            · subst hz
              simp only [true_or, if_true] at HASK
              cases hb : m.testBit k
              · have HBT := Lib.hid hb
                have HAL := Lib.hid (alone_join 4 k c1 m r hb (by have := HQ1.out.st.lr; have := HK4.out; omega))
                go_wp2_with fail
                refine HASK.out.mono ?_; rintro e w6 ⟨bo, rfl, ho, hs, hap, hge, hb⟩
                have HBO := Lib.hid (bit_or m HQ1.out.st.m16 k HK4.out HBT.out)
                have HQ2 := Lib.hid (And.intro ho (And.intro hap (And.intro (HQ1.out.keep hb) (show bm ≠ bo ∧ ba ≠ bo by have := HQ1.out.st.lts; have := HQ1.out.box.lt; omega))))
                clear ho hs hap hge hb q0 q1 q2 y0 y1 y2 HASK
                go_wp2_with fail
                refine (g_run (o' := ⟨0, k, 6, 0, c1, 0⟩) (ws' := c1 :: (m ||| 2 ^ k) :: r.set k c1) (6) HQ2.out.2.2.1.st.sys HQ2.out.1 HQ2.out.2.1 gok14 (gin_new 4 0 k 0 (by decide) HK4.out (by decide)) HLE.out (by decide) HAL.out.1 HAL.out.2 rfl).mono ?_; rintro e w7 ⟨he, hs, hc⟩
                obtain rfl : e = .returned (.tuple #[.int .i64 0, .int .u64 (c1 : Nat), .int .i64 6]) := he
                have HQ3 := Lib.hid (HQ2.out.2.2.1.ran HQ2.out.2.2.2 hs hc (by rw [List.length_set]; exact HQ1.out.st.lr) HBO.out.1)
                clear hs hc HQ2 HLE HAL
                have q0 : w7.cell? ⟨ba, 0, none⟩ = some (.int .i64 0) := HQ3.out.box.cell 0
                have q1 : w7.cell? ⟨ba, 1, none⟩ = some (.int .i64 (k : Int)) := HQ3.out.box.cell 1
                have q2 : w7.cell? ⟨ba, 2, none⟩ = some (.int .u64 (v : Int)) := HQ3.out.box.cell 2
                obtain ⟨x, hlook, hx⟩ := in_lookup HQ3.out.st.got k HK4.out
                rw [HBT.out] at hlook
                obtain ⟨w8, hup, hin, hgr⟩ := in_update HQ3.out.st.got k c1 HK4.out HQ1.out.st.m16 HBT.out HC64.out (by omega) HQ1.out.st.lr
                have HF := Lib.hid (HQ3.out.st.map hin hgr)
                clear hin hgr hx hb HQ1 HQ3 HBO
                go_wp2
                go_roundg (40 - (j + 1))
                case measure => omega
                case rel => exact ⟨j + 1, c1, _, _, by omega, by omega, rfl, rfl, by go_num, HF⟩
              · have HBT := Lib.hid hb
                have HAL := Lib.hid (alone_join_no 1 4 0 k (c1 :: m :: r) hb)
                go_wp2_with fail
                refine HASK.out.mono ?_; rintro e w6 ⟨bo, rfl, ho, hs, hap, hge, hb⟩
                skip
                have HQ2 := Lib.hid (And.intro ho (And.intro hap (And.intro (HQ1.out.keep hb) (show bm ≠ bo ∧ ba ≠ bo by have := HQ1.out.st.lts; have := HQ1.out.box.lt; omega))))
                clear ho hs hap hge hb q0 q1 q2 y0 y1 y2 HASK
                go_wp2_with fail
                refine (g_run (o' := ⟨0, k, 6, 0, 0, 14⟩) (ws' := c1 :: m :: r) (1) HQ2.out.2.2.1.st.sys HQ2.out.1 HQ2.out.2.1 gok14 (gin_new 4 0 k 0 (by decide) HK4.out (by decide)) HLE.out (by decide) HAL.out.1 HAL.out.2 rfl).mono ?_; rintro e w7 ⟨he, hs, hc⟩
                obtain rfl : e = .returned (.tuple #[.int .i64 14, .int .u64 0, .int .i64 1]) := he
                have HQ3 := Lib.hid (HQ2.out.2.2.1.ran HQ2.out.2.2.2 hs hc HQ1.out.st.lr HQ1.out.st.m16)
                clear hs hc HQ2 HLE HAL
                have q0 : w7.cell? ⟨ba, 0, none⟩ = some (.int .i64 0) := HQ3.out.box.cell 0
                have q1 : w7.cell? ⟨ba, 1, none⟩ = some (.int .i64 (k : Int)) := HQ3.out.box.cell 1
                have q2 : w7.cell? ⟨ba, 2, none⟩ = some (.int .u64 (v : Int)) := HQ3.out.box.cell 2
                obtain ⟨x, hlook, hx⟩ := in_lookup HQ3.out.st.got k HK4.out
                rw [HBT.out] at hlook
                have HF := Lib.hid HQ3.out.st.next
                clear hx hb HQ1 HQ3
                go_wp2
                go_roundg (40 - (j + 1))
                case measure => omega
                case rel => exact ⟨j + 1, c1, _, _, by omega, by omega, rfl, rfl, by go_num, HF⟩
            · have hz0 := hz
              clear hz
              by_cases hz : z = 1
              · subst hz
                have e10 : ((1 : Int) = 0) = False := by simp
                simp only [e10, or_true, if_true, if_false] at HASK
                clear e10 hz0
                cases hb : m.testBit k
                · have HBT := Lib.hid hb
                  have HAL := Lib.hid (alone_leave_no 1 4 0 k (c1 :: m :: r) hb)
                  go_wp2_with fail
                  refine HASK.out.mono ?_; rintro e w6 ⟨bo, rfl, ho, hs, hap, hge, hb⟩
                  skip
                  have HQ2 := Lib.hid (And.intro ho (And.intro hap (And.intro (HQ1.out.keep hb) (show bm ≠ bo ∧ ba ≠ bo by have := HQ1.out.st.lts; have := HQ1.out.box.lt; omega))))
                  clear ho hs hap hge hb q0 q1 q2 y0 y1 y2 HASK
                  go_wp2_with fail
                  refine (g_run (o' := ⟨1, k, 6, m, 0, 13⟩) (ws' := c1 :: m :: r) (1) HQ2.out.2.2.1.st.sys HQ2.out.1 HQ2.out.2.1 gok14 (gin_new 4 1 k 0 (by decide) HK4.out (by decide)) HLE.out (by decide) HAL.out.1 HAL.out.2 rfl).mono ?_; rintro e w7 ⟨he, hs, hc⟩
                  obtain rfl : e = .returned (.tuple #[.int .i64 13, .int .u64 0, .int .i64 1]) := he
                  have HQ3 := Lib.hid (HQ2.out.2.2.1.ran HQ2.out.2.2.2 hs hc HQ1.out.st.lr HQ1.out.st.m16)
                  clear hs hc HQ2 HLE HAL
                  have q0 : w7.cell? ⟨ba, 0, none⟩ = some (.int .i64 1) := HQ3.out.box.cell 0
                  have q1 : w7.cell? ⟨ba, 1, none⟩ = some (.int .i64 (k : Int)) := HQ3.out.box.cell 1
                  have q2 : w7.cell? ⟨ba, 2, none⟩ = some (.int .u64 (v : Int)) := HQ3.out.box.cell 2
                  obtain ⟨x, hlook, hx⟩ := in_lookup HQ3.out.st.got k HK4.out
                  rw [HBT.out] at hlook
                  obtain ⟨w8, hup, hin, hgr⟩ := in_delete_not HQ3.out.st.got k 0 HK4.out HBT.out
                  have HF := Lib.hid (HQ3.out.st.map hin hgr).next
                  clear hin hgr hx hb HQ1 HQ3
                  go_wp2
                  go_roundg (40 - (j + 1))
                  case measure => omega
                  case rel => exact ⟨j + 1, c1, _, _, by omega, by omega, rfl, rfl, by go_num, HF⟩
                · have HBT := Lib.hid hb
                  have HAL := Lib.hid (alone_leave 1 4 0 k (c1 :: m :: r) hb)
                  go_wp2_with fail
                  refine HASK.out.mono ?_; rintro e w6 ⟨bo, rfl, ho, hs, hap, hge, hb⟩
                  have HBO := Lib.hid (bit_off m HQ1.out.st.m16 k HK4.out HBT.out)
                  have HQ2 := Lib.hid (And.intro ho (And.intro hap (And.intro (HQ1.out.keep hb) (show bm ≠ bo ∧ ba ≠ bo by have := HQ1.out.st.lts; have := HQ1.out.box.lt; omega))))
                  clear ho hs hap hge hb q0 q1 q2 y0 y1 y2 HASK
                  go_wp2_with fail
                  refine (g_run (o' := ⟨1, k, 6, m, 0, 0⟩) (ws' := c1 :: (m &&& (18446744073709551615 - 2 ^ k)) :: r) (2) HQ2.out.2.2.1.st.sys HQ2.out.1 HQ2.out.2.1 gok14 (gin_new 4 1 k 0 (by decide) HK4.out (by decide)) HLE.out (by decide) HAL.out.1 HAL.out.2 rfl).mono ?_; rintro e w7 ⟨he, hs, hc⟩
                  obtain rfl : e = .returned (.tuple #[.int .i64 0, .int .u64 0, .int .i64 2]) := he
                  have HQ3 := Lib.hid (HQ2.out.2.2.1.ran HQ2.out.2.2.2 hs hc HQ1.out.st.lr HBO.out.1)
                  clear hs hc HQ2 HLE HAL
                  have q0 : w7.cell? ⟨ba, 0, none⟩ = some (.int .i64 1) := HQ3.out.box.cell 0
                  have q1 : w7.cell? ⟨ba, 1, none⟩ = some (.int .i64 (k : Int)) := HQ3.out.box.cell 1
                  have q2 : w7.cell? ⟨ba, 2, none⟩ = some (.int .u64 (v : Int)) := HQ3.out.box.cell 2
                  obtain ⟨x, hlook, hx⟩ := in_lookup HQ3.out.st.got k HK4.out
                  rw [HBT.out] at hlook
                  obtain ⟨w8, hup, hin, hgr⟩ := in_delete HQ3.out.st.got k 0 HK4.out HQ1.out.st.m16 HBT.out
                  have HF := Lib.hid (HQ3.out.st.map hin hgr).next
                  clear hin hgr hx hb HQ1 HQ3 HBO
                  go_wp2
                  go_roundg (40 - (j + 1))
                  case measure => omega
                  case rel => exact ⟨j + 1, c1, _, _, by omega, by omega, rfl, rfl, by go_num, HF⟩
              · rw [if_neg hz0, if_neg hz, if_neg (by simp [hz0, hz]), if_neg (by simp [hz0, hz])] at HASK
                have tz0 : (z == 0) = false := by rw [beq_eq_false_iff_ne]; exact hz0
                have tz1 : (z == 1) = false := by rw [beq_eq_false_iff_ne]; exact hz
                clear hz0 hz
                have HAL := Lib.hid (alone_least 1 4 0 v (c1 :: m :: r))
                obtain ⟨nn, hnn⟩ : ∃ nn, cntD m 4 0 = nn := ⟨_, rfl⟩
                have HNN := Lib.hid hnn
                have hn4 : nn ≤ 4 := by rw [← hnn]; exact cntD_le m 4 0
                go_wp2_with fail
                refine HASK.out.mono ?_; rintro e w6 ⟨bo, rfl, ho, hs, hap, hge, hb⟩
                skip
                have HQ2 := Lib.hid (And.intro ho (And.intro hap (And.intro (HQ1.out.keep hb) (show bm ≠ bo ∧ ba ≠ bo by have := HQ1.out.st.lts; have := HQ1.out.box.lt; omega))))
                clear ho hs hap hge hb q0 q1 q2 y0 y1 y2 HASK
                go_wp2_with fail
                refine (g_run (o' := ⟨2, 4, 6, m, mnD 1 m (c1 :: m :: r) 4 0 v, 0⟩) (ws' := c1 :: m :: r) (1 + cntD m 4 0) HQ2.out.2.2.1.st.sys HQ2.out.1 HQ2.out.2.1 gok14 (gin_new 4 2 0 v (by decide) (by decide) HV.out) HLE.out (by have := cntD_le m 4 0; omega) HAL.out.1 HAL.out.2 rfl).mono ?_; rintro e w7 ⟨he, hs, hc⟩
                obtain rfl : e = .returned (.tuple #[.int .i64 0, .int .u64 (mnD 1 m (c1 :: m :: r) 4 0 v : Nat), .int .i64 (1 + cntD m 4 0 : Nat)]) := he
                have HQ3 := Lib.hid (HQ2.out.2.2.1.ran HQ2.out.2.2.2 hs hc HQ1.out.st.lr HQ1.out.st.m16)
                clear hs hc HQ2 HLE HAL
                have q0 : w7.cell? ⟨ba, 0, none⟩ = some (.int .i64 z) := HQ3.out.box.cell 0
                have q1 : w7.cell? ⟨ba, 1, none⟩ = some (.int .i64 (k : Int)) := HQ3.out.box.cell 1
                have q2 : w7.cell? ⟨ba, 2, none⟩ = some (.int .u64 (v : Int)) := HQ3.out.box.cell 2
                obtain ⟨x, hlook, hx⟩ := in_lookup HQ3.out.st.got k HK4.out
                have hlen2 := fun ty => in_len HQ3.out.st.got ty
                rw [hnn] at hlen2 ⊢
                obtain ⟨mv, hmv⟩ : ∃ mv, mnD 1 m (c1 :: m :: r) 4 0 v = mv := ⟨_, rfl⟩
                rw [hmv]
                have HMV := Lib.hid hmv
                clear hx hnn hmv
                go_wp2_with fail
                go_loopg [17, 18] 4 (fun gg v17 v18 wr => ∃ (u want : Nat), u ≤ 4 ∧ gg = 4 - u ∧ v17 = .int .u64 want ∧ v18 = .int .i64 u ∧ wr = w7 ∧ Hid (mnD 1 m (c1 :: m :: r) (4 - u) u want = mv))
                case atStart => exact ⟨0, v, by decide, rfl, rfl, rfl, rfl, HMV⟩
                case round =>
                  obtain ⟨u, want, hu, rfl, rfl, rfl, rfl, HM⟩ := hrel
                  by_cases hu4 : u < 4
                  · obtain ⟨x1, hlook1, hx1⟩ := in_lookup HQ3.out.st.got u hu4
                    have hstep : mnD 1 m (c1 :: m :: r) (4 - u) u want = if m.testBit u then mnD 1 m (c1 :: m :: r) (4 - (u + 1)) (u + 1) (min want ((c1 :: m :: r).getD (1 + 1 + u) 0)) else mnD 1 m (c1 :: m :: r) (4 - (u + 1)) (u + 1) want := by
                      obtain ⟨f, hf⟩ : ∃ f, 4 - u = f + 1 := ⟨3 - u, by omega⟩
                      rw [hf, show 4 - (u + 1) = f by omega]
                      rfl
                    have HX1 : Hid (m.testBit u = true → x1 = (c1 :: m :: r).getD (1 + 1 + u) 0) := Lib.hid (fun h => by rw [hx1 h, show 1 + 1 + u = u + 1 + 1 by omega]; rfl)
                    have HST := Lib.hid hstep
                    clear hstep hx1 hlook
                    have u4 : (u : Int) < 4 := by omega
                    cases hbu : m.testBit u
                    · have HM2 : Hid (mnD 1 m (c1 :: m :: r) (4 - (u + 1)) (u + 1) want = mv) := Lib.hid (by rw [← HM.out, HST.out, hbu]; rfl)
                      rw [hbu] at hlook1
                      clear hbu HX1 HST
                      go_wp2
                      go_roundg (4 - (u + 1))
                      case measure => omega
                      case rel => exact ⟨u + 1, want, by omega, rfl, rfl, by go_num, rfl, HM2⟩
                    · rw [hbu] at hlook1
                      have HM2 : Hid (mnD 1 m (c1 :: m :: r) (4 - (u + 1)) (u + 1) (min want x1) = mv) := Lib.hid (by rw [HX1.out hbu, ← HM.out, HST.out, hbu]; rfl)
                      clear hbu HX1 HST
                      by_cases hxw : x1 < want
                      · have hlt2 : (x1 : Int) < (want : Int) := by omega
                        go_wp2
                        go_roundg (4 - (u + 1))
                        case measure => omega
                        case rel => exact ⟨u + 1, min want x1, by omega, rfl, by rw [show min want x1 = x1 by omega], by go_num, rfl, HM2⟩
                      · have hlt2 : ¬ (x1 : Int) < (want : Int) := by omega
                        go_wp2
                        go_roundg (4 - (u + 1))
                        case measure => omega
                        case rel => exact ⟨u + 1, min want x1, by omega, rfl, by rw [show min want x1 = want by omega], by go_num, rfl, HM2⟩
                  · obtain rfl : u = 4 := by omega
                    have HM3 := HM.out
                    have hwm : want = mv := HM3
                    subst hwm
                    clear HM3 HM HMV hu hu4
                    have HF := Lib.hid HQ3.out.st.next
                    clear HQ1 HQ3
                    go_wp2
                    go_roundg (40 - (j + 1))
                    case measure => omega
                    case rel => exact ⟨j + 1, c1, _, _, by omega, by omega, rfl, rfl, by go_num, HF⟩
      · obtain rfl : j = 40 := by omega
        obtain hno : True := trivial
        have y0 : wr.cell? ⟨W.heap.size, 0, none⟩ = some (.int .i64 1) := HI.out.sys.box.cell 0
        have y1 : wr.cell? ⟨W.heap.size, 1, none⟩ = some (.int .i64 4) := HI.out.sys.box.cell 1
        have y2 : wr.cell? ⟨W.heap.size, 2, none⟩ = some (.int .i64 0) := HI.out.sys.box.cell 2
        have HLE : Hid ((c :: m :: r).length = 6) := Lib.hid (by have := HI.out.lr; simp only [List.length_cons]; omega)
        have HMX := Lib.hid (gmask_calls 1 4 0 wr gok14)
        clear hno
        go_wp2_with fail
        refine HMX.out.mono ?_; rintro e w8 ⟨rfl, hb⟩
        have HI2 := Lib.hid (HI.out.sys.keep hb)
        clear hb y0 y1 y2 HI HMX
        go_wp2_with fail
        refine (peek_calls b bw bb (c :: m :: r) 1 1 w8 HI2.out.mem (by rw [HLE.out]; decide) (by decide) (by decide)).mono ?_; rintro e w9 ⟨g, cc, he, _, _, hb⟩
        rw [HLE.out] at he
        obtain rfl : e = .returned (.slice (some ⟨g, 0, none⟩) 1 cc) := he
        have HI3 := Lib.hid (HI2.out.keep hb)
        clear hb HI2
        go_wp2_with fail
        refine (trap_calls b bw bb (c :: m :: r) _ HI3.out.mem).mono ?_; rintro e w' ⟨rfl, rfl⟩
        go_wp2_with fail
        refine (gone_calls _).mono ?_; rintro e w10 ⟨rfl, hb⟩
        have HF := Lib.hid (HI3.out.keep hb).below
        clear hb HI3
        go_wp2
        go_ret
        exact ⟨rfl, HF.out⟩
    · obtain rfl : j = len := by omega
      obtain hno : True := trivial
      have y0 : wr.cell? ⟨W.heap.size, 0, none⟩ = some (.int .i64 1) := HI.out.sys.box.cell 0
      have y1 : wr.cell? ⟨W.heap.size, 1, none⟩ = some (.int .i64 4) := HI.out.sys.box.cell 1
      have y2 : wr.cell? ⟨W.heap.size, 2, none⟩ = some (.int .i64 0) := HI.out.sys.box.cell 2
      have HLE : Hid ((c :: m :: r).length = 6) := Lib.hid (by have := HI.out.lr; simp only [List.length_cons]; omega)
      have HMX := Lib.hid (gmask_calls 1 4 0 wr gok14)
      clear hno
      go_wp2_with fail
      refine HMX.out.mono ?_; rintro e w8 ⟨rfl, hb⟩
      have HI2 := Lib.hid (HI.out.sys.keep hb)
      clear hb y0 y1 y2 HI HMX
      go_wp2_with fail
      refine (peek_calls b bw bb (c :: m :: r) 1 1 w8 HI2.out.mem (by rw [HLE.out]; decide) (by decide) (by decide)).mono ?_; rintro e w9 ⟨g, cc, he, _, _, hb⟩
      rw [HLE.out] at he
      obtain rfl : e = .returned (.slice (some ⟨g, 0, none⟩) 1 cc) := he
      have HI3 := Lib.hid (HI2.out.keep hb)
      clear hb HI2
      go_wp2_with fail
      refine (trap_calls b bw bb (c :: m :: r) _ HI3.out.mem).mono ?_; rintro e w' ⟨rfl, rfl⟩
      go_wp2_with fail
      refine (gone_calls _).mono ?_; rintro e w10 ⟨rfl, hb⟩
      have HF := Lib.hid (HI3.out.keep hb).below
      clear hb HI3
      go_wp2
      go_ret
      exact ⟨rfl, HF.out⟩
end Go.Proofs.Ytjmooohhndjmiaa
