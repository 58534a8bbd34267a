/- the walk of ScriptBack. (Printed by genback.py over genback.body.) -/
import Derived.Test.YtgfingdopelinaaScNum
import Derived.Test.YtgfingdopelinaaScEq
import Derived.Test.YtgfingdopelinaaScW2
import Derived.Test.YtgfingdopelinaaScBp
import Derived.Test.YtgfingdopelinaaScBr
namespace Go.Proofs.Ytgfingdopelinaa
set_option linter.unusedSimpArgs false
set_option linter.unusedVariables false
open Go.RowKit Go.Deep

theorem conf_set {W w : World} {cb : Nat} {c0 c1 c2 c3 c4 : Value} (h : Blk w cb 24 [c0, c1, c2, c3, c4]) (hb : Below cb W w) (v0 v1 v2 v3 v4 : Value) :
    Below cb W (((((w.setCell ⟨cb, 0, none⟩ v0).setCell ⟨cb, 1, none⟩ v1).setCell ⟨cb, 2, none⟩ v2).setCell ⟨cb, 3, none⟩ v3).setCell ⟨cb, 4, none⟩ v4) ∧ Blk (((((w.setCell ⟨cb, 0, none⟩ v0).setCell ⟨cb, 1, none⟩ v1).setCell ⟨cb, 2, none⟩ v2).setCell ⟨cb, 3, none⟩ v3).setCell ⟨cb, 4, none⟩ v4) cb 24 [v0, v1, v2, v3, v4] ∧ Chg (fun j => j = cb) w (((((w.setCell ⟨cb, 0, none⟩ v0).setCell ⟨cb, 1, none⟩ v1).setCell ⟨cb, 2, none⟩ v2).setCell ⟨cb, 3, none⟩ v3).setCell ⟨cb, 4, none⟩ v4) := by
  have hc := (((((Chg.refl (fun j => j = cb) w).setCell ⟨cb, 0, none⟩ v0 (fun _ => rfl)).setCell ⟨cb, 1, none⟩ v1 (fun _ => rfl)).setCell ⟨cb, 2, none⟩ v2 (fun _ => rfl)).setCell ⟨cb, 3, none⟩ v3 (fun _ => rfl)).setCell ⟨cb, 4, none⟩ v4 (fun _ => rfl)
  exact ⟨hc.below hb (by have := h.lt; omega) (fun k hk => by omega), ((((h.set 0 v0).set 1 v1).set 2 v2).set 3 v3).set 4 v4, hc⟩
theorem clean_get (ls : List En) {k : Nat} (hk : k < ls.length) {e : En} (he : ls.getD k enZero = e) : (ls.map En.clean).getD k enZero = e.clean := by
  subst he
  simp [List.getD, hk]
/-- what stands behind the conf's test. -/
def CSt (W : World) (cb : Nat) (wx : World) : Prop :=
  ∃ (t : Int) (A : Option Addr) (n cap : Nat) (words blocks sweep : Int) (zs : List Int), Blk wx cb 24 [.int .i64 t, .slice A n cap, .int .i64 words, .int .i64 blocks, .int .i64 sweep] ∧ IsAt wx A n cap zs ∧ confB t words blocks sweep zs = true ∧ sweep < 9223372036854775808 ∧ Below cb W wx
set_option maxRecDepth 100000 in
set_option maxHeartbeats 8000000 in
theorem scriptBack_walk (t : Int) (A : Option Addr) (n cap : Nat) (words blocks sweep : Int) (zs : List Int) (E : Option Addr) (m mcap : Nat) (es : List En) (W : World) (hI : IsAt W A n cap zs) (hE : EnsAt W E m mcap es) (hsw : sweep < 9223372036854775808) :
    Calls Try.prog 4 #[confV t A n cap words blocks sweep, .slice E m mcap] W fun e w' => e = .returned (.bool true) ∧ Below W.heap.size W w' := by
  have HI0 := Lib.hid hI
  have HE0 := Lib.hid hE
  have HSW := Lib.hid hsw
  have hm63 : m ≤ 9223372036854775807 := by have := hE.2.1; have := hE.2.2.1; omega
  clear hI hE hsw
  have HBX := Lib.hid (Blk.new W 24 [.int .i64 t, .slice A n cap, .int .i64 words, .int .i64 blocks, .int .i64 sweep])
  have hbw : Below W.heap.size W (W.alloc (.cells #[.int .i64 t, .slice A n cap, .int .i64 words, .int .i64 blocks, .int .i64 sweep] 24)) := bnew (Below.refl _ _) _
  have HI1 := Lib.hid (HI0.out.below hbw)
  have HBW := Lib.hid hbw
  clear hbw
  unfold confV
  go_enter Try.func4, Try.ntmps4
  go_upto_region 1 with fail
  generalize W.alloc (.cells #[.int .i64 t, .slice A n cap, .int .i64 words, .int .i64 blocks, .int .i64 sweep] 24) = w1 at HBX HI1 HBW ⊢
  obtain ⟨cb, hcb⟩ : ∃ cb, W.heap.size = cb := ⟨_, rfl⟩
  rw [hcb] at HBX HBW ⊢
  have HCB := Lib.hid hcb
  clear hcb
  go_cut [26] (fun v wx => ∃ b : Bool, v = .bool b ∧ Hid (Below w1.heap.size w1 wx ∧ (b = false → confB t words blocks sweep zs = true)))
  case first =>
    obtain ⟨c0, c1, c2, c3, c4⟩ := conf_cells HBX.out
    by_cases hn : n ≤ 20
    · have t0 : decide ((20 : Int) < (n : Int)) = false := by simp; omega
      have HCR := fun W => Lib.hid (fun h => cright_calls t A n cap words blocks sweep zs W h)
      unfold confV at HCR
      cases hcf : confB t words blocks sweep zs with
      | true =>
        simp only [hcf] at HCR
        have HCF := Lib.hid hcf
        clear hcf hn
        go_wp2_with fail
        refine ((HCR _).out HI1.out).mono ?_; rintro e w2 ⟨rfl, hb2⟩
        have HB2 := Lib.hid hb2
        clear hb2 c0 c1 c2 c3 c4
        go_wp2
        go_meet
        case rel => exact ⟨false, rfl, Lib.hid ⟨HB2.out, fun _ => HCF.out⟩⟩
      | false =>
        simp only [hcf] at HCR
        clear hcf hn
        go_wp2_with fail
        refine ((HCR _).out HI1.out).mono ?_; rintro e w2 ⟨rfl, hb2⟩
        have HB2 := Lib.hid hb2
        clear hb2 c0 c1 c2 c3 c4
        go_wp2
        go_meet
        case rel => exact ⟨true, rfl, Lib.hid ⟨HB2.out, fun h => by cases h⟩⟩
    · have t0 : decide ((20 : Int) < (n : Int)) = true := by simp; omega
      clear hn
      go_wp2
      go_meet
      case rel => exact ⟨true, rfl, Lib.hid ⟨Below.refl _ _, fun h => by cases h⟩⟩
  case rest =>
    obtain ⟨b26, rfl, HC⟩ := hcut
    have HBX2 := Lib.hid (HBX.out.chg (chg_of_below (fun _ => False) HC.out.1) (fun h => h))
    have HI2 := Lib.hid (HI1.out.below HC.out.1)
    have HBW2 := Lib.hid (HBW.out.trans (HC.out.1.mono (by have := HBX.out.lt; omega)))
    have HCF := Lib.hid HC.out.2
    clear HC HBX HI1 HBW
    go_upto_if 26 with fail
    go_cut [27] (fun v wx => Hid (CSt W cb wx))
    case first =>
      obtain ⟨c0, c1, c2, c3, c4⟩ := conf_cells HBX2.out
      cases b26 with
      | false =>
        have HFIN : Hid (CSt W cb wc) := Lib.hid ⟨_, _, _, _, _, _, _, _, HBX2.out, HI2.out, HCF.out rfl, HSW.out, HBW2.out⟩
        go_wp2
        go_meet
        case rel => exact HFIN
      | true =>
        go_wp2_with fail
        refine (plain_calls _).mono ?_; rintro e w3 ⟨q, rfl, hq1, hq2, hq3⟩
        have h5 := HBX2.out.chg (chg_of_below (fun _ => False) hq2) (fun h => h)
        obtain ⟨a1, a2, a3⟩ := conf_set (W := W) h5 (HBW2.out.trans (hq2.mono (by have := HBX2.out.lt; omega))) (.int .i64 3) (.slice (some ⟨q, 0, none⟩) 2 2) (.int .i64 3) (.int .i64 24) (.int .i64 2)
        have HFIN := Lib.hid (show CSt W cb _ from ⟨3, some ⟨q, 0, none⟩, 2, 2, 3, 24, 2, toInts [2, 4], a2, hq1.chg a3 (fun b off e => by
          injection e with e
          injection e with e1 _
          have := HBX2.out.lt
          omega), plain_conf, by decide, a1⟩)
        clear c0 c1 c2 c3 c4
        obtain ⟨c0, c1, c2, c3, c4⟩ := conf_cells h5
        have z0 := h5.free 0
        have z1 := h5.free 1
        have z2 := h5.free 2
        have z3 := h5.free 3
        have z4 := h5.free 4
        clear hq1 hq2 hq3 h5 a1 a2 a3
        unfold confV
        go_wp2
        go_meet
        case rel => exact HFIN
    case rest =>
      clear HBX2 HI2 HBW2 HCF HSW HI0 b26
      obtain ⟨t, A, n, cap, words, blocks, sweep, zs, hbx, his, hcf, hsw, hbw⟩ := hcut.out
      have HE2 := Lib.hid (HE0.out.below (by rw [HCB.out]; exact hbw))
      have HBX := Lib.hid hbx
      have HIS := Lib.hid his
      have HCF := Lib.hid hcf
      have HSW := Lib.hid hsw
      have HBW := Lib.hid hbw
      clear hbx his hcf hsw hbw hcut HE0
      obtain ⟨w2, rfl⟩ : ∃ w2 : World, w2 = wc := ⟨_, rfl⟩
      go_upto_block 0 with fail
      go_cut [5, 6] (fun v5 v6 wx => ∃ vE : Value, vE = v5 ∧ Hid (∃ ls : List En, ls.length ≤ 50 ∧ (∀ e ∈ ls, e.rightB = true ∧ e.gen < 18446744073709551616 ∧ e.pos < 18446744073709551616) ∧ wx.ownsRow w2.heap.size 34 9 vE ls.length (ents ls) ∧ Below w2.heap.size w2 wx))
      case first =>
        go_wp2_with fail
        go_loopg [5, 6] m (fun g v5 i wr => ∃ (k : Nat) (vE : Value), vE = v5 ∧ k ≤ m ∧ k ≤ 50 ∧ g = m - k ∧ i = .int .i64 k ∧ Hid (∃ ls : List En, ls.length ≤ k ∧ (∀ e ∈ ls, e.rightB = true ∧ e.gen < 18446744073709551616 ∧ e.pos < 18446744073709551616) ∧ wr.ownsRow w2.heap.size 34 9 vE ls.length (ents ls) ∧ Below w2.heap.size w2 wr))
        case atStart => exact ⟨0, _, rfl, by omega, by omega, rfl, rfl, Lib.hid ⟨[], by simp, by simp, World.ownsRow_nil _ _ _ _, Below.refl _ _⟩⟩
        case round =>
          obtain ⟨k, vE, rfl, hk, hk50, rfl, rfl, HI⟩ := hrel
          obtain ⟨ls, hll, hlr, hlo, hlb⟩ := HI.out
          have HLL := Lib.hid hll
          have HLR := Lib.hid hlr
          have HLO := Lib.hid hlo
          have HLB := Lib.hid hlb
          clear hll hlr hlo hlb HI
          by_cases hlt : k < m
          · by_cases h50 : k < 50
            · obtain ⟨en, hek⟩ : ∃ e, es.getD k enZero = e := ⟨_, rfl⟩
              obtain ⟨eb, eo, hE, d0, d1, d2, d3, d4, d5, d6, d7, d8⟩ := (HE2.out.below HLB.out).cells hlt hek
              subst hE
              have hem : en ∈ es := by
                rw [← hek, List.getD, List.getElem?_eq_getElem (by rw [HE2.out.1]; exact hlt)]
                exact List.getElem_mem _
              have HGP := Lib.hid (HE2.out.2.2.2.1 en hem)
              have HRC := fun W => Lib.hid (lright_calls en W)
              have i0 : (0 : Int) ≤ (k : Int) := Int.natCast_nonneg k
              clear hek hem
              cases hrb : en.rightB with
              | false =>
                simp only [hrb] at HRC
                clear hrb
                obtain ⟨th, pk, kd, tp, gk, gn, md, tx, ps⟩ := en
                unfold En.val at HRC
                dsimp only at HRC d0 d1 d2 d3 d4 d5 d6 d7 d8
                go_wp2_with fail
                refine (HRC _).out.mono ?_; rintro e w4 ⟨rfl, hb4⟩
                have HNX : Hid (∃ ls : List En, ls.length ≤ k + 1 ∧ (∀ e ∈ ls, e.rightB = true ∧ e.gen < 18446744073709551616 ∧ e.pos < 18446744073709551616) ∧ w4.ownsRow w2.heap.size 34 9 vE ls.length (ents ls) ∧ Below w2.heap.size w2 w4) := Lib.hid ⟨ls, by have := HLL.out; omega, HLR.out, own_chg' HLO.out (chg_of_below (fun _ => False) hb4) (fun _ _ h => h), HLB.out.trans (hb4.mono HLB.out.size)⟩
                clear hb4 d0 d1 d2 d3 d4 d5 d6 d7 d8
                go_wp2
                go_roundg (m - (k + 1))
                case measure => omega
                case rel => exact ⟨k + 1, _, rfl, by omega, by omega, rfl, by go_num, HNX⟩
              | true =>
                simp only [hrb] at HRC
                have HRB := Lib.hid hrb
                clear hrb
                obtain ⟨A5, n5, k5, hv5⟩ := own_slice HLO.out
                subst hv5
                obtain ⟨th, pk, kd, tp, gk, gn, md, tx, ps⟩ := en
                unfold En.val at HRC
                dsimp only at HRC d0 d1 d2 d3 d4 d5 d6 d7 d8
                go_wp2_with fail
                refine (HRC _).out.mono ?_; rintro e w4 ⟨rfl, hb4⟩
                have HB4 := Lib.hid (HLB.out.trans (hb4.mono HLB.out.size))
                have ho4 := own_chg' HLO.out (chg_of_below (fun _ => False) hb4) (fun _ _ h => h)
                obtain ⟨v5, w5, hrun, ho5, hc5, _⟩ := appE_run w4 w2.heap.size _ ls (En.mk th pk kd tp gk gn md tx ps) ho4 HB4.out.size (by have := HLL.out; omega)
                have HNX : Hid (∃ ls : List En, ls.length ≤ k + 1 ∧ (∀ e ∈ ls, e.rightB = true ∧ e.gen < 18446744073709551616 ∧ e.pos < 18446744073709551616) ∧ w5.ownsRow w2.heap.size 34 9 v5 ls.length (ents ls) ∧ Below w2.heap.size w2 w5) := Lib.hid ⟨ls ++ [En.mk th pk kd tp gk gn md tx ps], by have := HLL.out; simp; omega, by
                  intro e he
                  rcases List.mem_append.1 he with he | he
                  · exact HLR.out e he
                  · simp at he; subst he; exact ⟨HRB.out, HGP.out⟩, ho5, hc5.below HB4.out HB4.out.size (fun j hj => (HLO.out.lt j hj).1)⟩
                have e0 := kcell hb4 d0
                have e1 := kcell hb4 d1
                have e2 := kcell hb4 d2
                have e3 := kcell hb4 d3
                have e4 := kcell hb4 d4
                have e5 := kcell hb4 d5
                have e6 := kcell hb4 d6
                have e7 := kcell hb4 d7
                have e8 := kcell hb4 d8
                clear hb4 d0 d1 d2 d3 d4 d5 d6 d7 d8 ho4 ho5 hc5
                go_wp2_with (at_builtin; refine wpList_plain rfl (fun K hK => oper_append (.tmp 43) (.tmp 48) 25 rfl rfl rfl hrun (hK _ _ ?_)))
                go_wp2
                go_roundg (m - (k + 1))
                case measure => omega
                case rel => exact ⟨k + 1, _, rfl, by omega, by omega, rfl, by go_num, HNX⟩
            · obtain rfl : k = 50 := by omega
              have HFIN : Hid (∃ ls : List En, ls.length ≤ 50 ∧ (∀ e ∈ ls, e.rightB = true ∧ e.gen < 18446744073709551616 ∧ e.pos < 18446744073709551616) ∧ wr.ownsRow w2.heap.size 34 9 vE ls.length (ents ls) ∧ Below w2.heap.size w2 wr) := Lib.hid ⟨ls, HLL.out, HLR.out, HLO.out, HLB.out⟩
              go_wp2
              go_meet
              case rel => exact ⟨_, rfl, HFIN⟩
          · have HFIN : Hid (∃ ls : List En, ls.length ≤ 50 ∧ (∀ e ∈ ls, e.rightB = true ∧ e.gen < 18446744073709551616 ∧ e.pos < 18446744073709551616) ∧ wr.ownsRow w2.heap.size 34 9 vE ls.length (ents ls) ∧ Below w2.heap.size w2 wr) := Lib.hid ⟨ls, by have := HLL.out; omega, HLR.out, HLO.out, HLB.out⟩
            obtain rfl : m = k := by omega
            clear hlt
            go_wp2
            go_meet
            case rel => exact ⟨_, rfl, HFIN⟩
      case rest =>
        obtain ⟨vE, rfl, hls⟩ := hcut
        obtain ⟨ls, hll, hlr, hlo, hlb⟩ := hls.out
        obtain ⟨w3, rfl⟩ : ∃ w3 : World, w3 = wc := ⟨_, rfl⟩
        obtain ⟨EA, M, KE, hvE⟩ := own_slice hlo
        subst hvE
        have hes := own_ensat hlo (fun e he => (hlr e he).2)
        have hek : ∀ e ∈ ls, EnOk e.clean := fun e he => EnOk.of (hlr e he).1 (hlr e he).2.1 (hlr e he).2.2
        have hpl := putS_len HCF.out HSW.out hll hek
        have HP := Lib.hid (sput_ok t A n cap words blocks sweep EA M KE zs ls w3 (HIS.out.below hlb) hes HCF.out (by rw [List.all_eq_true]; intro e he; exact (hlr e he).1) (by have := hes.1; omega) HSW.out (by omega))
        have HLM := Lib.hid hes.1
        have HLL := Lib.hid hll
        have HEK := Lib.hid hek
        have HPN := Lib.hid hpl
        obtain ⟨bs, hbs⟩ : ∃ bs, putS t words blocks sweep zs ls = bs := ⟨_, rfl⟩
        rw [hbs] at HP HPN
        have HBS := Lib.hid hbs
        have HES3 := Lib.hid hes
        have HIS3 := Lib.hid (HIS.out.below hlb)
        have HBX3 := Lib.hid (HBX.out.chg (chg_of_below (fun _ => False) hlb) (fun h => h))
        have HBW3 := Lib.hid (HBW.out.trans (hlb.mono (by have := HBX.out.lt; omega)))
        clear hls hll hlr hlo hlb hes hek hpl hbs HIS HBX HBW HE2
        unfold scriptV at HP
        obtain ⟨c0, c1, c2, c3, c4⟩ := conf_cells HBX3.out
        go_wp2_with fail
        refine HP.out.mono ?_; rintro r w4 ⟨vx, rfl, hown, hb4⟩
        obtain ⟨Ax, nx, kx, hvx⟩ := own_slice hown
        subst hvx
        obtain ⟨hbx, hax⟩ := own_bsat hown (by rw [← HBS.out]; exact put_lt)
        have hnx := hbx.1
        have h7 : 7 ≤ nx := by have := HPN.out.1; omega
        have hn1 : nx ≤ 10000 := by have := HPN.out.2; omega
        have HRD := Lib.hid (read_calls Ax nx kx bs w4 hbx (fun _ => hax) (by omega))
        obtain ⟨xb0, xo0, hAx, _⟩ := hbx.2.2.2.2.1 (by omega)
        subst hAx
        have HBB := Lib.hid hbx
        have HAX := Lib.hid hax
        have HNX := Lib.hid hnx
        have HES4 := Lib.hid (HES3.out.below hb4)
        have HIS4 := Lib.hid (HIS3.out.below hb4)
        have HBX4 := Lib.hid (HBX3.out.chg (chg_of_below (fun _ => False) hb4) (fun h => h))
        have HBW4 := Lib.hid (HBW3.out.trans (hb4.mono (by have := HBX3.out.lt; omega)))
        clear hown hb4 hbx hax hnx HP HES3 HIS3 HBX3 HBW3 c0 c1 c2 c3 c4
        have t7 : decide ((nx : Int) < 7) = false := by simp; omega
        go_wp2_with fail
        refine HRD.out.mono ?_; rintro r w5 hpost
        unfold ReadPost at hpost
        obtain ⟨_, hyes, hb5⟩ := hpost
        obtain ⟨AT, nT, cT, ES, mS, kS, hr, hIs, hEs⟩ := hyes (back_ok HCF.out HSW.out (by have := HLL.out; omega) HEK.out bs HBS.out.symm)
        obtain ⟨p1, p2, p3, p4, p5, p6⟩ := back_read [] HCF.out HSW.out (by have := HLL.out; omega) HEK.out bs (by rw [List.append_nil]; exact HBS.out.symm)
        rw [p1, p3, p4, p5] at hr
        rw [p2] at hIs
        rw [p6] at hEs
        have hes5 := hEs (fun e he => by
          obtain ⟨x, hx, rfl⟩ := List.mem_map.1 he
          exact (enok_clean (HEK.out x hx)).2.2)
        obtain rfl : n = nT := HIS4.out.1.symm.trans hIs.1
        obtain rfl : M = mS := by have h1 := hes5.1; have h2 := HLM.out; dsimp only at h1; rw [List.length_map] at h1; omega
        unfold scriptV at hr
        subst hr
        have HSB := Lib.hid (Blk.new w5 46 [.int .i64 t, .slice AT n cT, .int .i64 words, .int .i64 blocks, .int .i64 sweep, .slice ES M kS])
        have hb6 : Below w4.heap.size w4 (w5.alloc (.cells #[.int .i64 t, .slice AT n cT, .int .i64 words, .int .i64 blocks, .int .i64 sweep, .slice ES M kS] 46)) := bnew hb5 _
        have hb56 : Below w5.heap.size w5 (w5.alloc (.cells #[.int .i64 t, .slice AT n cT, .int .i64 words, .int .i64 blocks, .int .i64 sweep, .slice ES M kS] 46)) := bnew (Below.refl _ _) _
        have HSI := Lib.hid (hIs.below hb56)
        have HSE := Lib.hid (hes5.below hb56)
        have HES6 := Lib.hid (HES4.out.below hb6)
        have HIS6 := Lib.hid (HIS4.out.below hb6)
        have HBX6 := Lib.hid (HBX4.out.chg (chg_of_below (fun _ => False) hb6) (fun h => h))
        have HBW6 := Lib.hid (HBW4.out.trans (hb6.mono (by have := HBX4.out.lt; omega)))
        have HBB6 := Lib.hid (HBB.out.below hb6)
        have HAX6 := Lib.hid (fun a e => Nat.lt_of_lt_of_le (HAX.out a e) hb6.size)
        have hM63 : M ≤ 9223372036854775807 := by have h1 := HES6.out.2.1; have h2 := HES6.out.2.2.1; omega
        clear hyes hIs hEs p1 p2 p3 p4 p5 p6 hes5 hb5 hb6 hb56 HRD HES4 HIS4 HBX4 HBW4 HBB HAX
        go_upto_region 13 with fail
        generalize w5.alloc (.cells #[.int .i64 t, .slice AT n cT, .int .i64 words, .int .i64 blocks, .int .i64 sweep, .slice ES M kS] 46) = w6 at HSB HSI HSE HES6 HIS6 HBX6 HBW6 HBB6 HAX6 ⊢
        generalize w5.heap.size = sb at HSB ⊢
        obtain ⟨c0, c1, c2, c3, c4, c5⟩ := script_cells HSB.out
        obtain ⟨f0, f1, f2, f3, f4⟩ := conf_cells HBX6.out
        have HAL := Lib.hid (alike_calls t words blocks sweep AT A n cT cap zs w6 HSI.out HIS6.out)
        unfold confV at HAL
        go_wp2_with fail
        refine HAL.out.mono ?_; rintro e w7 ⟨rfl, hb7⟩
        have HSB7 := Lib.hid (HSB.out.chg (chg_of_below (fun _ => False) hb7) (fun h => h))
        have HB7 := Lib.hid hb7
        clear hb7 c0 c1 c2 c3 c4 c5 f0 f1 f2 f3 f4 HAL
        obtain ⟨c0, c1, c2, c3, c4, c5⟩ := script_cells HSB7.out
        go_wp2_with fail
        go_loopg [11] M (fun g i wr => ∃ k : Nat, k ≤ M ∧ g = M - k ∧ i = .int .i64 k ∧ Hid (Below w6.heap.size w6 wr))
        case atStart => exact ⟨0, by omega, rfl, rfl, HB7⟩
        case round =>
          obtain ⟨k, hk, rfl, rfl, HI⟩ := hrel
          clear c0 c1 c2 c3 c4 c5
          obtain ⟨c0, c1, c2, c3, c4, c5⟩ := script_cells (HSB.out.chg (chg_of_below (fun _ => False) HI.out) (fun h => h))
          by_cases hlt : k < M
          · obtain ⟨en, hek⟩ : ∃ e, ls.getD k enZero = e := ⟨_, rfl⟩
            obtain ⟨eb, eo, hE, e0, e1, e2, e3, e4, e5, e6, e7, e8⟩ := (HES6.out.below HI.out).cells hlt hek
            subst hE
            obtain ⟨ec, hec⟩ : ∃ e, en.clean = e := ⟨_, rfl⟩
            obtain ⟨xb, xo, hX, x0, x1, x2, x3, x4, x5, x6, x7, x8⟩ := (HSE.out.below HI.out).cells hlt ((clean_get ls (by have := HLM.out; omega) hek).trans hec)
            subst hX
            have HCL := fun W => Lib.hid (clean_calls en W)
            simp only [hec] at HCL
            clear hek hec c0 c1 c2 c3 c4
            obtain ⟨th1, pk1, kd1, tp1, gk1, gn1, md1, tx1, ps1⟩ := en
            obtain ⟨th2, pk2, kd2, tp2, gk2, gn2, md2, tx2, ps2⟩ := ec
            unfold En.val at HCL
            dsimp only at HCL e0 e1 e2 e3 e4 e5 e6 e7 e8 x0 x1 x2 x3 x4 x5 x6 x7 x8
            go_upto_region 18 with fail
            refine wp_region_held_drew (S := (fun w' => w'.cell? ⟨sb, 5, none⟩ = some (.slice (some ⟨xb, xo, none⟩) M kS) ∧ w'.cell? ⟨xb, xo + k * 9, none⟩ = some (.int .i64 th2) ∧ w'.cell? ⟨xb, xo + k * 9 + 1, none⟩ = some (.bool pk2) ∧ w'.cell? ⟨xb, xo + k * 9 + 2, none⟩ = some (.int .i64 kd2) ∧ w'.cell? ⟨xb, xo + k * 9 + 3, none⟩ = some (.int .i64 tp2) ∧ w'.cell? ⟨xb, xo + k * 9 + 4, none⟩ = some (.int .i64 gk2) ∧ w'.cell? ⟨xb, xo + k * 9 + 5, none⟩ = some (.int .u64 gn2) ∧ w'.cell? ⟨xb, xo + k * 9 + 6, none⟩ = some (.int .i64 md2) ∧ w'.cell? ⟨xb, xo + k * 9 + 7, none⟩ = some (.string tx2) ∧ w'.cell? ⟨xb, xo + k * 9 + 8, none⟩ = some (.int .u64 ps2) ∧ w'.cell? ⟨eb, eo + k * 9, none⟩ = some (.int .i64 th1) ∧ w'.cell? ⟨eb, eo + k * 9 + 1, none⟩ = some (.bool pk1) ∧ w'.cell? ⟨eb, eo + k * 9 + 2, none⟩ = some (.int .i64 kd1) ∧ w'.cell? ⟨eb, eo + k * 9 + 3, none⟩ = some (.int .i64 tp1) ∧ w'.cell? ⟨eb, eo + k * 9 + 4, none⟩ = some (.int .i64 gk1) ∧ w'.cell? ⟨eb, eo + k * 9 + 5, none⟩ = some (.int .u64 gn1) ∧ w'.cell? ⟨eb, eo + k * 9 + 6, none⟩ = some (.int .i64 md1) ∧ w'.cell? ⟨eb, eo + k * 9 + 7, none⟩ = some (.string tx1) ∧ w'.cell? ⟨eb, eo + k * 9 + 8, none⟩ = some (.int .u64 ps1))) (by kernel_rfl) (⟨c5, x0, x1, x2, x3, x4, x5, x6, x7, x8, e0, e1, e2, e3, e4, e5, e6, e7, e8⟩) (fun hH0 => ?_)
            refine take_first 0 (some 92) ?_ rfl rfl (by kernel_rfl) (by kernel_rfl) (by kernel_rfl) (fun _ _ _ h => h) rfl ?hy hH0 ?_
            case hy => (intro w0 hS0; (try dsimp only at hS0); (try go_simp); try with_reducible rfl)
            try simp only [Act.put, List.setIfInBounds_toArray, List.set_cons_zero, List.set_cons_succ]
            refine take_first 1 (some 93) ?_ rfl rfl (by kernel_rfl) (by kernel_rfl) (by kernel_rfl) (fun _ _ _ h => h) rfl ?hy hH0 ?_
            case hy => (intro w0 hS0; (try dsimp only at hS0); (try go_simp); try with_reducible rfl)
            try simp only [Act.put, List.setIfInBounds_toArray, List.set_cons_zero, List.set_cons_succ]
            refine take_first 2 (some 94) ?_ rfl rfl (by kernel_rfl) (by kernel_rfl) (by kernel_rfl) (fun _ _ _ h => h) rfl ?hy hH0 ?_
            case hy => (intro w0 hS0; (try dsimp only at hS0); (try go_simp); try with_reducible rfl)
            try simp only [Act.put, List.setIfInBounds_toArray, List.set_cons_zero, List.set_cons_succ]
            refine take_first 3 (some 95) ?_ rfl rfl (by kernel_rfl) (by kernel_rfl) (by kernel_rfl) (fun _ _ _ h => h) rfl ?hy hH0 ?_
            case hy => (intro w0 hS0; (try dsimp only at hS0); (try go_simp); try with_reducible rfl)
            try simp only [Act.put, List.setIfInBounds_toArray, List.set_cons_zero, List.set_cons_succ]
            refine take_first 4 (some 96) ?_ rfl rfl (by kernel_rfl) (by kernel_rfl) (by kernel_rfl) (fun _ _ _ h => h) rfl ?hy hH0 ?_
            case hy => (intro w0 hS0; (try dsimp only at hS0); (try go_simp); try with_reducible rfl)
            try simp only [Act.put, List.setIfInBounds_toArray, List.set_cons_zero, List.set_cons_succ]
            refine take_first 5 (some 97) ?_ rfl rfl (by kernel_rfl) (by kernel_rfl) (by kernel_rfl) (fun _ _ _ h => h) rfl ?hy hH0 ?_
            case hy => (intro w0 hS0; (try dsimp only at hS0); (try go_simp); try with_reducible rfl)
            try simp only [Act.put, List.setIfInBounds_toArray, List.set_cons_zero, List.set_cons_succ]
            refine take_first 6 (some 98) ?_ rfl rfl (by kernel_rfl) (by kernel_rfl) (by kernel_rfl) (fun _ _ _ h => h) rfl ?hy hH0 ?_
            case hy => (intro w0 hS0; (try dsimp only at hS0); (try go_simp); try with_reducible rfl)
            try simp only [Act.put, List.setIfInBounds_toArray, List.set_cons_zero, List.set_cons_succ]
            refine take_first 7 (some 99) ?_ rfl rfl (by kernel_rfl) (by kernel_rfl) (by kernel_rfl) (fun _ _ _ h => h) rfl ?hy hH0 ?_
            case hy => (intro w0 hS0; (try dsimp only at hS0); (try go_simp); try with_reducible rfl)
            try simp only [Act.put, List.setIfInBounds_toArray, List.set_cons_zero, List.set_cons_succ]
            refine take_first 8 (some 100) ?_ rfl rfl (by kernel_rfl) (by kernel_rfl) (by kernel_rfl) (fun _ _ _ h => h) rfl ?hy hH0 ?_
            case hy => (intro w0 hS0; (try dsimp only at hS0); (try go_simp); try with_reducible rfl)
            try simp only [Act.put, List.setIfInBounds_toArray, List.set_cons_zero, List.set_cons_succ]
            refine wpAnyH_ready (rs := [9]) (by kernel_rfl) (by simp) (AllReadyH.cons rfl (fun K hK => ?_) AllReadyH.nil)
            go_simp
            refine (HCL _).out.mono ?_; rintro e w5 ⟨rfl, hb5⟩
            have HB5 : Hid (Below w6.heap.size w6 w5) := Lib.hid (bseq (HI.out.trans (Below.refl _ wr).drew) hb5)
            refine hK.out _ _ (⟨kcell hb5 (hH0.1), kcell hb5 (hH0.2.1), kcell hb5 (hH0.2.2.1), kcell hb5 (hH0.2.2.2.1), kcell hb5 (hH0.2.2.2.2.1), kcell hb5 (hH0.2.2.2.2.2.1), kcell hb5 (hH0.2.2.2.2.2.2.1), kcell hb5 (hH0.2.2.2.2.2.2.2.1), kcell hb5 (hH0.2.2.2.2.2.2.2.2.1), kcell hb5 (hH0.2.2.2.2.2.2.2.2.2.1), kcell hb5 (hH0.2.2.2.2.2.2.2.2.2.2.1), kcell hb5 (hH0.2.2.2.2.2.2.2.2.2.2.2.1), kcell hb5 (hH0.2.2.2.2.2.2.2.2.2.2.2.2.1), kcell hb5 (hH0.2.2.2.2.2.2.2.2.2.2.2.2.2.1), kcell hb5 (hH0.2.2.2.2.2.2.2.2.2.2.2.2.2.2.1), kcell hb5 (hH0.2.2.2.2.2.2.2.2.2.2.2.2.2.2.2.1), kcell hb5 (hH0.2.2.2.2.2.2.2.2.2.2.2.2.2.2.2.2.1), kcell hb5 (hH0.2.2.2.2.2.2.2.2.2.2.2.2.2.2.2.2.2.1), kcell hb5 (hH0.2.2.2.2.2.2.2.2.2.2.2.2.2.2.2.2.2.2)⟩) (fun hH1 => ?_)
            clear hK hH0
            try simp only [Act.put, List.setIfInBounds_toArray, List.set_cons_zero, List.set_cons_succ]
            refine take_first 10 (some 102) (.bool false) rfl rfl (by kernel_rfl) (by kernel_rfl) (by kernel_rfl) (fun _ _ _ h => h) rfl (by intro w0 hS0; (try dsimp only at hS0); go_simp) hH1 ?_
            try simp only [Act.put, List.setIfInBounds_toArray, List.set_cons_zero, List.set_cons_succ]
            refine wpAnyH_done (by kernel_rfl) ?_ _
            clear x0 x1 x2 x3 x4 x5 x6 x7 x8 e0 e1 e2 e3 e4 e5 e6 e7 e8 c5 hb5 hH1
            go_wp2
            go_roundg (M - (k + 1))
            case measure => omega
            case rel => exact ⟨k + 1, by omega, rfl, by go_num, HB5⟩
          · obtain rfl : M = k := by omega
            clear hlt
            have HBW8 := Lib.hid (HBW6.out.trans (HI.out.mono (by have := HBX6.out.lt; omega)))
            have HBB8 := Lib.hid (HBB6.out.below HI.out)
            have HAX8 := Lib.hid (fun a e => Nat.lt_of_lt_of_le (HAX6.out a e) HI.out.size)
            have hne : bs ≠ [] := by intro e; have := HNX.out; rw [e] at this; simp at this; omega
            have hcut1 : rdOk (bs.take (nx - 1)) = false := by
              refine back_cut (bs.getLast hne) HCF.out HSW.out (by have := HLL.out; omega) HEK.out _ ?_
              rw [← HNX.out, ← List.dropLast_eq_take, List.dropLast_concat_getLast, HBS.out]
            have hmore : rdOk (bs ++ [0]) = false := back_more 0 HCF.out HSW.out (by have := HLL.out; omega) HEK.out _ (by rw [HBS.out])
            have HN1 := Lib.hid hcut1
            have HN2 := Lib.hid hmore
            have HR1 := Lib.hid (read_calls (some ⟨xb0, xo0, none⟩) (nx - 1) kx (bs.take (nx - 1)) wr (HBB8.out.take (by omega)) (fun _ => HAX8.out) (by omega))
            have hsub : (nx : Int) - 1 = ((nx - 1 : Nat) : Int) := by omega
            have hkx : nx ≤ kx := HBB8.out.2.1
            have hkx2 : kx ≤ 9223372036854775807 := HBB8.out.2.2.1
            have HSUB := Lib.hid hsub
            clear hne hcut1 hmore hsub c0 c1 c2 c3 c4 c5
            go_wp2_with fail
            refine HR1.out.mono ?_; rintro r w8 hpost
            unfold ReadPost at hpost
            obtain ⟨hno, _, hb8⟩ := hpost
            have hr := hno HN1.out
            unfold zscriptV at hr
            subst hr
            have hb9 : Below wr.heap.size wr (w8.alloc (.cells #[.int .i64 0, .slice none 0 0, .int .i64 0, .int .i64 0, .int .i64 0, .slice none 0 0] 46)) := bnew hb8 _
            have HBW9 := Lib.hid (HBW8.out.trans (hb9.mono (by have h1 := HBX6.out.lt; have h2 := HI.out.size; omega)))
            have HBB9 := Lib.hid (HBB8.out.below hb9)
            clear hno hb8 hb9 HR1 HAX8 HAX6
            go_upto_region 21 with fail
            generalize w8.alloc (.cells #[.int .i64 0, .slice none 0 0, .int .i64 0, .int .i64 0, .int .i64 0, .slice none 0 0] 46) = w9 at HBW9 HBB9 ⊢
            have ho0 : (w9.alloc (.cells #[] 5)).ownsRow w9.heap.size 5 1 (.slice (some ⟨w9.heap.size, 0, none⟩) 0 0) ([] : List Nat).length (u8s []) :=
              ⟨rfl, .inr ⟨w9.heap.size, 0, #[], rfl, Nat.le_refl _, Blk.new w9 5 [], Nat.le_refl _, by simp, rfl, rfl⟩⟩
            obtain ⟨v1, w10, hrun1, ho1, hg1, _⟩ := cat_run (w9.alloc (.cells #[] 5)) w9.heap.size _ [] bs (some ⟨xb0, xo0, none⟩) nx kx ho0 (HBB9.out.below (bnew (Below.refl _ _) _)) (by simp) (by simp; omega)
            have hb10 : Below w9.heap.size w9 w10 := (own_chg hg1).below ((Below.refl w9.heap.size w9).alloc (Nat.le_refl _) _) (by simp) (fun j hj => (ho0.lt j hj).1)
            have ho1' : w10.ownsRow w9.heap.size 5 1 v1 bs.length (u8s bs) := by simpa [u8s] using ho1
            obtain ⟨A1, n1, k1, hv1⟩ := own_slice ho1'
            subst hv1
            have hB0 : BsAt (w10.alloc (.cells #[.int .u8 0] 5)) (some ⟨w10.heap.size, 0, none⟩) 1 1 [0] := by
              refine ⟨rfl, by omega, by omega, by simp, fun _ => ⟨_, 0, rfl, fun i hi => ?_⟩, fun e => by cases e⟩
              obtain rfl : i = 0 := by omega
              exact (Blk.new w10 5 [.int .u8 0]).cell 0
            obtain ⟨v2, w11, hrun2, ho2, hg2, _⟩ := cat_run (w10.alloc (.cells #[.int .u8 0] 5)) w9.heap.size _ bs [0] (some ⟨w10.heap.size, 0, none⟩) 1 1 (ho1'.alloc _) hB0 (by have := hb10.size; simp; omega) (by have := HNX.out; omega)
            have hb11 : Below w9.heap.size w9 w11 := (own_chg hg2).below (hb10.alloc hb10.size _) (by have := hb10.size; simp; omega) (fun j hj => (ho1'.lt j hj).1)
            obtain ⟨A2, n2, k2, hv2⟩ := own_slice ho2
            subst hv2
            have ho2' : w11.ownsRow w9.heap.size 5 1 (.slice A2 n2 k2) (bs ++ [0]).length (u8s (bs ++ [0])) := by rw [u8s_app, List.length_append]; exact ho2
            obtain ⟨hbb2, hax2⟩ := own_bsat ho2' (by
              intro x hx
              rcases List.mem_append.1 hx with hx | hx
              · exact HBB9.out.2.2.2.1 x hx
              · simp at hx; omega)
            have hn2 := hbb2.1
            have HR2 := Lib.hid (read_calls A2 n2 k2 (bs ++ [0]) w11 hbb2 (fun _ => hax2) (by have h1 := HNX.out; rw [← hn2, List.length_append]; simp; omega))
            have HBW11 := Lib.hid (HBW9.out.trans (hb11.mono (by have h1 := HBX6.out.lt; have h2 := HI.out.size; have h3 := HBW9.out.size; have h4 := HCB.out; omega)))
            clear ho0 ho1 hg1 hb10 ho1' hB0 ho2 hg2 hb11 ho2' hbb2 hax2 hn2
            go_wp2_with (at_builtin; first | refine wpList_plain rfl (fun K hK => oper_append (.tmp 113) (.tmp 114) 41 rfl rfl rfl hrun1 (hK _ _ ?_)) | refine wpList_plain rfl (fun K hK => oper_append (.tmp 115) (.tmp 116) 41 rfl rfl rfl hrun2 (hK _ _ ?_)))
            refine HR2.out.mono ?_; rintro r w12 hpost
            unfold ReadPost at hpost
            obtain ⟨hno, _, hb12⟩ := hpost
            have hr := hno HN2.out
            unfold zscriptV at hr
            subst hr
            have hb13 : Below w11.heap.size w11 (w12.alloc (.cells #[.int .i64 0, .slice none 0 0, .int .i64 0, .int .i64 0, .int .i64 0, .slice none 0 0] 46)) := bnew hb12 _
            have HBW13 := Lib.hid (HBW11.out.trans (hb13.mono (by have h3 := HBW11.out.size; have h4 := HCB.out; omega)))
            clear hno hb12 hb13 HR2 hrun1 hrun2
            go_upto_region 22 with fail
            generalize w12.alloc (.cells #[.int .i64 0, .slice none 0 0, .int .i64 0, .int .i64 0, .int .i64 0, .slice none 0 0] 46) = w13 at HBW13 ⊢
            obtain ⟨w14, hmk, hb14⟩ := make_run w13
            have HBW14 := Lib.hid (HBW13.out.trans (hb14.mono (by have h3 := HBW13.out.size; have h4 := HCB.out; omega)))
            have HR3 := Lib.hid (read_big (some ⟨w13.heap.size, 0, none⟩) 1048577 1048577 w14 (by omega) (by omega))
            unfold zscriptV at HR3
            clear hb14
            go_wp2_with fail
            refine HR3.out.mono ?_; rintro r w15 ⟨rfl, hb15⟩
            have hb16 : Below w14.heap.size w14 (w15.alloc (.cells #[.int .i64 0, .slice none 0 0, .int .i64 0, .int .i64 0, .int .i64 0, .slice none 0 0] 46)) := bnew hb15 _
            have HBW16 := Lib.hid (HBW14.out.trans (hb16.mono (by have h3 := HBW14.out.size; have h4 := HCB.out; omega)))
            clear hb15 hb16 HR3 hmk
            go_upto_region 23 with fail
            generalize w15.alloc (.cells #[.int .i64 0, .slice none 0 0, .int .i64 0, .int .i64 0, .int .i64 0, .slice none 0 0] 46) = w16 at HBW16 ⊢
            go_wp2_with (go_at_call 14; refine (one_calls _).mono ?_; rintro e w17 ⟨rfl, hb17⟩; have HB17 := Lib.hid hb17; clear hb17)
            go_ret
            refine ⟨rfl, ?_⟩
            rw [HCB.out]
            exact HBW16.out.trans (HB17.out.mono (by have h3 := HBW16.out.size; have h4 := HCB.out; omega))
end Go.Proofs.Ytgfingdopelinaa
