/- the walk of GateHolds. -/
import Derived.Test.YtjmooohhndjmiaaHoA
import Derived.Test.YtjmooohhndjmiaaHoC
import Derived.Test.YtjmooohhndjmiaaGatO
import Derived.Test.YtjmooohhndjmiaaAlS
import Derived.StillTailTactics
import Derived.Deep.CutBlock
import Derived.Deep.DeepCutAuto
import Derived.Deep.LoopGhost
namespace Go.Proofs.Ytjmooohhndjmiaa
open Go.RowKit Go.Deep
set_option linter.unusedVariables false
set_option linter.unusedSimpArgs false

theorem keepG {W W' : World} {p q t : Nat} {c : Nat} (h : W.cell? ⟨p, 0, none⟩ = some (.int .i64 1) ∧ W.cell? ⟨p, 1, none⟩ = some (.int .i64 2) ∧ W.cell? ⟨p, 2, none⟩ = some (.int .i64 0) ∧ W.cell? ⟨q, t, none⟩ = some (.int .u64 (c : Nat))) (hb : Below W.heap.size W W') :
    W'.cell? ⟨p, 0, none⟩ = some (.int .i64 1) ∧ W'.cell? ⟨p, 1, none⟩ = some (.int .i64 2) ∧ W'.cell? ⟨p, 2, none⟩ = some (.int .i64 0) ∧ W'.cell? ⟨q, t, none⟩ = some (.int .u64 (c : Nat)) :=
  ⟨kcell hb h.1, kcell hb h.2.1, kcell hb h.2.2.1, kcell hb h.2.2.2⟩
theorem gok12 : GOk 1 2 0 := ⟨by decide, by decide, by decide, by decide⟩
theorem num_cell {w : World} {A : Option Addr} {len cap : Nat} {l : List (List Int)} (h : RowsAt w [.i64] A len cap l) {k : Nat} (hk : k < len) :
    ∃ b off : Nat, ∃ x : Int, A = some ⟨b, off, none⟩ ∧ w.cell? ⟨b, off + k, none⟩ = some (.int .i64 x) := by
  obtain ⟨h1, h2, h3, h4, h5⟩ := h
  obtain ⟨b, off, rfl, hc⟩ := h5 (by omega)
  have hz := h4 (l.getD k []) (by have : k < l.length := by omega
                                  simp [List.getD, this])
  match hl : l.getD k [], hz with
  | [x], _ =>
    have c0 := hc k hk 0 (.int .i64 x) (by rw [hl]; rfl)
    exact ⟨b, off, x, rfl, by simpa using c0⟩
set_option maxHeartbeats 8000000 in
set_option maxRecDepth 100000 in
theorem gateHolds_walk (A : Option Addr) (len cap : Nat) (l : List (List Int)) (ah : Int) (_hah : (Lit.int .i64 ah).wf = true) (W : World) (hl : RowsAt W [.i64] A len cap l) :
    Calls Try.prog 5 #[.slice A len cap, .int .i64 ah] W fun e w' => e = .returned (.bool true) ∧ Below W.heap.size W w' := by
  have hlen : len ≤ 9223372036854775807 := by have := hl.2.1; have := hl.2.2.1; omega
  have HLR := Lib.hid hl
  clear hl _hah
  obtain ⟨a5, ha5⟩ : ∃ n : Nat, ah % 32 = n := ⟨(ah % 32).toNat, by omega⟩
  have hand : bits .and .i64 ah 31 = (a5 : Int) := by rw [and31, ha5]
  clear ha5
  obtain ⟨W1, hW⟩ : ∃ W1, W1 = W.alloc (.cells #[.int .i64 1, .int .i64 2, .int .i64 0] 25) := ⟨_, rfl⟩
  have hbox : Blk W1 W.heap.size 25 [.int .i64 1, .int .i64 2, .int .i64 0] := by rw [hW]; exact blk_new W _ _ _ rfl
  have hbe : Below W.heap.size W W1 := by rw [hW]; exact bnew (Below.refl _ _) _
  have HB := Lib.hid (And.intro hbox hbe)
  clear hbox hbe
  go_enter Try.func5, Try.ntmps5
  go_wp2_with fail
  rw [← hW]
  clear hW
  refine (new_calls 4 W1 (by decide) (by decide)).mono ?_; rintro e w1 ⟨b, bw, bb, rfl, hm, h1, h2, h3, hb⟩
  have hs := gsys_new (w0 := W) (A := 1) (M := 2) (C := 0) HB.out.2 (Nat.le_refl _) HB.out.1 hm h1 h2 h3 hb
  have H1 : Hid (GSys W w1 W.heap.size 1 2 0 b bw bb (List.replicate 4 0)) := Lib.hid hs
  have x0 : w1.cell? ⟨W.heap.size, 0, none⟩ = some (.int .i64 1) := hs.box.cell 0
  have x1 : w1.cell? ⟨W.heap.size, 1, none⟩ = some (.int .i64 2) := hs.box.cell 1
  have x2 : w1.cell? ⟨W.heap.size, 2, none⟩ = some (.int .i64 0) := hs.box.cell 2
  clear hs hm h1 h2 h3 hb HB
  go_wp2_with fail
  refine (g_setup H1.out gok12 (by decide) (by decide)).mono ?_; rintro e w2 ⟨rfl, hs⟩
  have H2 : Hid (GSys W w2 W.heap.size 1 2 0 b bw bb [0, 0, 0, 0]) := Lib.hid hs
  have x0 : w2.cell? ⟨W.heap.size, 0, none⟩ = some (.int .i64 1) := hs.box.cell 0
  have x1 : w2.cell? ⟨W.heap.size, 1, none⟩ = some (.int .i64 2) := hs.box.cell 1
  have x2 : w2.cell? ⟨W.heap.size, 2, none⟩ = some (.int .i64 0) := hs.box.cell 2
  clear hs H1
  go_wp2_with fail
  refine (g_join 1 H2.out gok12 (by decide)).mono ?_; rintro e w3 ⟨bj, rfl, ho, hs, hap, _, _⟩
  have H3 := Lib.hid (ho_start (W := W) (w0 := W) hs ho hap rfl)
  clear ho hs hap x0 x1 x2 H2
  go_wp2_with fail
  generalize ((w3.alloc _).alloc _).alloc _ = w4 at H3 ⊢
  generalize w3.heap.size = b9 at H3 ⊢
  obtain ⟨b10, hb10⟩ : ∃ n, n = b9 + 1 := ⟨_, rfl⟩
  rw [← hb10] at H3 ⊢
  obtain ⟨b11, hb11⟩ : ∃ n, n = b10 + 1 := ⟨_, rfl⟩
  rw [← hb11] at H3 ⊢
  clear hb10 hb11 hand
  go_loopg [12, 13, 14] 250 (fun gg vs vj i wr => ∃ (k start : Nat) (jd : Bool), k ≤ len ∧ k ≤ 250 ∧ gg = 250 - k ∧ vs = .int .u64 start ∧ vj = .bool jd ∧ i = .int .i64 k ∧ Hid (HoAll W wr b bw bb bj b9 b10 b11 k start jd))
  case atStart => exact ⟨0, 0, false, Nat.zero_le _, Nat.zero_le _, rfl, rfl, rfl, rfl, H3⟩
  case round =>
    obtain ⟨k, start, jd, hk1, hk2, rfl, rfl, rfl, rfl, HI⟩ := hrel
    clear H3
    obtain ⟨c, m, x, j, fs, ats, ps, hin⟩ := HI.out
    have HN := Lib.hid hin
    clear hin HI
    by_cases hlt : k < len
    · by_cases h250 : k < 250
      · have i250 : (k : Int) < 250 := by omega
        obtain ⟨bl, ol, z, rfl, hcz⟩ := num_cell (HLR.out.below HN.out.st.below) hlt
        obtain ⟨t, ht⟩ : ∃ n : Nat, z % 4 = n := ⟨(z % 4).toNat, by omega⟩
        have hand : bits .and .i64 z 3 = (t : Int) := by rw [and3, ht]
        clear ht
        by_cases ht2 : 2 ≤ t
        · have tge : decide ((2 : Int) ≤ (t : Int)) = true := by simp; omega
          by_cases hah : a5 ≤ k
          · have tah : decide (a5 ≤ k) = true := by simp [hah]
            clear ht2 hah
            have HST := Lib.hid (HN.out.st.join_calls HN.out.gi HN.out.hj)
            go_wp2_with fail
            refine HST.out.mono ?_; rintro e w2 ⟨j', m', x', he, hw, hg, hj, hb, hp, h6⟩
            have hth : HoTh c (hB c j') j'.pc fs ats ps := HN.out.th.mono (Nat.le_refl _) (Nat.le_of_eq hb.symm) hp
            by_cases hp6 : j'.pc = 6
            · rw [decide_eq_true hp6] at he
              subst he
              have hvk : j'.v ≤ k := by have := hj.vc (by omega); have := HN.out.ck; omega
              have hrs := hw.result_calls
              rw [if_pos hp6, if_pos hp6] at hrs
              have HRS := Lib.hid hrs
              have HW : Hid (∀ w3, HoW W w3 b bw bb bj b9 b10 b11 c m' x' j' fs ats ps → HoAll W w3 b bw bb bj b9 b10 b11 (k + 1) j'.v true) := Lib.hid (fun w3 h3 => (HoIn.mk h3 hg hj (fun _ => ⟨hp6, rfl⟩) HN.out.ck hvk hth).all)
              obtain ⟨jv, hjv⟩ : ∃ n, j'.v = n := ⟨_, rfl⟩
              rw [hjv] at HRS HW
              clear hw hg hj hb hp h6 hth hp6 hvk hrs HST hjv
              go_wp2_with fail
              refine HRS.out.mono ?_; rintro e w3 ⟨rfl, hw3⟩
              have HF := Lib.hid (HW.out w3 hw3)
              clear hw3 HRS HW
              go_wp2
              go_roundg (250 - (k + 1))
              case measure => omega
              case rel => exact ⟨k + 1, jv, true, by omega, by omega, rfl, rfl, rfl, by go_num, HF⟩
            · rw [decide_eq_false hp6] at he
              subst he
              have HF : Hid (HoAll W w2 b bw bb bj b9 b10 b11 (k + 1) start jd) := Lib.hid (HoIn.mk hw hg hj (fun h => by obtain ⟨g1, g2⟩ := HN.out.jn h; rw [h6 g1]; exact ⟨g1, g2⟩) HN.out.ck HN.out.sk hth).all
              clear hw hg hj hb hp h6 hth hp6 HST
              go_wp2
              go_roundg (250 - (k + 1))
              case measure => omega
              case rel => exact ⟨k + 1, start, jd, by omega, by omega, rfl, rfl, rfl, by go_num, HF⟩
          · have tah : decide (a5 ≤ k) = false := by simp; omega
            have HF := Lib.hid HN.out.all
            clear ht2 hah HN
            go_wp2
            go_roundg (250 - (k + 1))
            case measure => omega
            case rel => exact ⟨k + 1, start, jd, by omega, by omega, rfl, rfl, rfl, by go_num, HF⟩
        · have ht : t < 2 := by omega
          have tge : decide ((2 : Int) ≤ (t : Int)) = false := by simp; omega
          have i0 : (0 : Int) ≤ (t : Int) := by omega
          have i2 : (t : Int) < 2 := by omega
          have HT := Lib.hid ht
          clear ht2 ht
          obtain ⟨a, ha⟩ : ∃ n, ats.getD t 0 = n := ⟨_, rfl⟩
          have f11 : wr.cell? ⟨b11, t, none⟩ = some (.int .i64 (a : Nat)) := by rw [HN.out.st.places.cell t, at_cell HN.out.st.lens.2.1 HT.out, ha]
          have z11 : wr.frozen? ⟨b11, t, none⟩ = false := HN.out.st.places.free t
          obtain ⟨o, hp, htk⟩ := HN.out.th t HT.out
          rw [ha] at hp htk
          have HP := Lib.hid hp
          have HTK := Lib.hid htk
          have HA := Lib.hid ha
          obtain ⟨f, hf⟩ : ∃ n, fs.getD t 0 = n := ⟨_, rfl⟩
          rw [hf] at HTK
          have HF0 := Lib.hid hf
          clear hp htk ha hf
          go_upto_block 2 with fail
          obtain ⟨w0, hw0⟩ : ∃ w0 : World, w0 = wr := ⟨_, rfl⟩
          go_cut [17] (fun v17 wx => Hid (HoAll W wx b bw bb bj b9 b10 b11 (k + 1) start jd))
          case first =>
            clear hw0 hcz hand tge
            have hac : a = 0 ∨ a = 1 ∨ a = 2 := by rcases HTK.out with h | ⟨h, _⟩ | ⟨h, _⟩ <;> omega
            rcases hac with rfl | rfl | rfl
            · have hld := load_calls b bw bb [c, m, 0, x] 0 wr HN.out.st.at (by simp)
              have HLD := Lib.hid hld
              clear hld
              go_wp2_with fail
              refine HLD.out.mono ?_; rintro e w2 ⟨he, hm, hc⟩
              obtain rfl : e = .returned (.int .u64 (c : Nat)) := he
              have h2 := HN.out.st.memory hm (hc.mono (fun _ _ h => .inl h))
              have H2 := Lib.hid h2
              have f10 : w2.cell? ⟨b10, t, none⟩ = some (.int .u64 (fs.getD t 0 : Nat)) := by rw [h2.froms.cell t, from_cell h2.lens.1 HT.out]
              have z10 : w2.frozen? ⟨b10, t, none⟩ = false := h2.froms.free t
              clear hm hc h2 f11 z11 HLD
              go_upto_region 24 with fail
              have h3 := H2.out.from t c
              generalize w2.setCell ⟨b10, t, none⟩ (.int .u64 (c : Nat)) = w3 at h3 ⊢
              have H3 := Lib.hid h3
              have g0 : w3.cell? ⟨W.heap.size, 0, none⟩ = some (.int .i64 1) := h3.box.cell 0
              have g1 : w3.cell? ⟨W.heap.size, 1, none⟩ = some (.int .i64 2) := h3.box.cell 1
              have g2 : w3.cell? ⟨W.heap.size, 2, none⟩ = some (.int .i64 0) := h3.box.cell 2
              have f3 : w3.cell? ⟨b10, t, none⟩ = some (.int .u64 (c : Nat)) := by
                rw [h3.froms.cell t, from_cell h3.lens.1 HT.out]
                have e : (fs.set t c).getD t 0 = c := by have := H2.out.lens.1; have := HT.out; simp [List.getD, show t < fs.length by omega]
                rw [e]
              have HFS : Hid ((fs.set t c).getD t 0 = c) := Lib.hid (by have := H2.out.lens.1; have := HT.out; simp [List.getD, show t < fs.length by omega])
              clear h3 f10 z10
              refine wp_region_held_drew (S := (fun w' => (w'.cell? ⟨W.heap.size, 0, none⟩ = some (.int .i64 1) ∧ w'.cell? ⟨W.heap.size, 1, none⟩ = some (.int .i64 2) ∧ w'.cell? ⟨W.heap.size, 2, none⟩ = some (.int .i64 0) ∧ w'.cell? ⟨b10, t, none⟩ = some (.int .u64 (c : Nat))))) (by kernel_rfl) (⟨g0, g1, g2, f3⟩) (fun hH0 => ?_)
              refine take_first 0 (some 89) ?_ rfl rfl (by kernel_rfl) (by kernel_rfl) (by kernel_rfl) (fun _ _ _ h => h) rfl ?hy hH0 ?_
              case hy => (intro w0 hS0; (try dsimp only at hS0); (try go_simp); try with_reducible rfl)
              try simp only [Act.put, List.setIfInBounds_toArray, List.set_cons_zero, List.set_cons_succ]
              refine take_first 1 (some 90) ?_ rfl rfl (by kernel_rfl) (by kernel_rfl) (by kernel_rfl) (fun _ _ _ h => h) rfl ?hy hH0 ?_
              case hy => (intro w0 hS0; (try dsimp only at hS0); (try go_simp); try with_reducible rfl)
              try simp only [Act.put, List.setIfInBounds_toArray, List.set_cons_zero, List.set_cons_succ]
              refine take_first 2 (some 91) ?_ rfl rfl (by kernel_rfl) (by kernel_rfl) (by kernel_rfl) (fun _ _ _ h => h) rfl ?hy hH0 ?_
              case hy => (intro w0 hS0; (try dsimp only at hS0); (try go_simp); try with_reducible rfl)
              try simp only [Act.put, List.setIfInBounds_toArray, List.set_cons_zero, List.set_cons_succ]
              refine take_first 3 (some 92) ?_ rfl rfl (by kernel_rfl) (by kernel_rfl) (by kernel_rfl) (fun _ _ _ h => h) rfl ?hy hH0 ?_
              case hy => (intro w0 hS0; (try dsimp only at hS0); (try go_simp); try with_reducible rfl)
              try simp only [Act.put, List.setIfInBounds_toArray, List.set_cons_zero, List.set_cons_succ]
              refine take_first 4 (some 93) ?_ rfl rfl (by kernel_rfl) (by kernel_rfl) (by kernel_rfl) (fun _ _ _ h => h) rfl ?hy hH0 ?_
              case hy => (intro w0 hS0; (try dsimp only at hS0); (try go_simp); try with_reducible rfl)
              try simp only [Act.put, List.setIfInBounds_toArray, List.set_cons_zero, List.set_cons_succ]
              refine wpAnyH_ready (rs := [5]) (by kernel_rfl) (by simp) (AllReadyH.cons rfl (fun K hK => ?_) AllReadyH.nil)
              go_simp
              refine (gleast_calls 1 2 0 c _ gok12).mono ?_; rintro e w5 ⟨bo, rfl, hge, hk, hb⟩
              have h4 := H3.out.keep (Below.refl _ w3).drew
              have h5 := h4.keep hb
              have htl : t < ps.length := by have := h5.lens.2.2; have := HT.out; omega
              have f9 : w5.cell? ⟨b9, t, none⟩ = some (pVal ps[t]) := by rw [h5.ptrs.cell t]; exact ptr_cell (List.getElem?_eq_getElem htl)
              have z9 : w5.frozen? ⟨b9, t, none⟩ = false := h5.ptrs.free t
              have H5 := Lib.hid (h4.new (o := ⟨2, 0, 0, 0, c, 0⟩) HT.out hb hge hk)
              obtain ⟨q9, hq9⟩ : ∃ q, pVal ps[t] = q := ⟨_, rfl⟩
              rw [hq9] at f9
              clear h4 h5 hq9 htl
              refine hK.out _ _ (keepG hH0 hb) (fun hH1 => ?_)
              clear hK
              try simp only [Act.put, List.setIfInBounds_toArray, List.set_cons_zero, List.set_cons_succ]
              refine take_first 6 (some 95) ?_ rfl rfl (by kernel_rfl) (by kernel_rfl) (by kernel_rfl) (fun _ _ _ h => h) rfl ?hy hH1 ?_
              case hy => (intro w0 hS0; (try dsimp only at hS0); (try go_simp); try with_reducible rfl)
              try simp only [Act.put, List.setIfInBounds_toArray, List.set_cons_zero, List.set_cons_succ]
              refine wpAnyH_ready (rs := [7]) (by kernel_rfl) (by simp) (AllReadyH.cons rfl (fun K hK => ?_) AllReadyH.nil)
              go_simp
              refine hK.out _ _ (⟨H5.out.box.cell 0, H5.out.box.cell 1, H5.out.box.cell 2, (by rw [H5.out.froms.cell t, from_cell H5.out.lens.1 HT.out, HFS.out])⟩) (fun hH2 => ?_)
              clear hK
              clear hH1
              try simp only [Act.put, List.setIfInBounds_toArray, List.set_cons_zero, List.set_cons_succ]
              refine wpAnyH_done (by kernel_rfl) ?_ _
              clear hH0 hH2 f9 z9 hge hk hb H3 H2 g0 g1 g2 f3
              go_upto_region 25 with fail
              have h6 := H5.out
              generalize w5.setCell ⟨b9, t, none⟩ (.pointer (some ⟨bo, 0, none⟩)) = w6 at h6 ⊢
              have H6 := Lib.hid h6
              have f11 : w6.cell? ⟨b11, t, none⟩ = some (.int .i64 (ats.getD t 0 : Nat)) := by rw [h6.places.cell t, at_cell h6.lens.2.1 HT.out]
              have z11 : w6.frozen? ⟨b11, t, none⟩ = false := h6.places.free t
              have HF : Hid (HoAll W (w6.setCell ⟨b11, t, none⟩ (.int .i64 1)) b bw bb bj b9 b10 b11 (k + 1) start jd) := Lib.hid (HoIn.mk (h6.place t 1) HN.out.gi HN.out.hj HN.out.jn HN.out.ck HN.out.sk (HN.out.th.upd (o := ⟨2, 0, 0, 0, c, 0⟩) HT.out HN.out.st.lens c 1 (some (bo, ⟨2, 0, 0, 0, c, 0⟩)) (fun _ => ⟨bo, rfl⟩) (.inr (.inl ⟨rfl, Nat.le_refl _, .inl rfl⟩)))).all
              clear h6 H5 H6
              go_wp2
              go_meet
              case rel => exact HF
            · obtain ⟨bo, hps⟩ := HP.out rfl
              obtain ⟨o', hst, hres⟩ := ht_step HN.out.hj HTK.out
              have HPS := Lib.hid hps
              have HRES := Lib.hid hres
              have hfk : f ≤ k := by rcases HTK.out with h | ⟨_, h, _⟩ | ⟨h, _⟩ <;> (have := HN.out.ck; omega)
              have HFK := Lib.hid hfk
              have HST := Lib.hid (HN.out.st.least_calls hps (ht_gin HTK.out (by omega)) hst)
              have f9 : wr.cell? ⟨b9, t, none⟩ = some (.pointer (some ⟨bo, 0, none⟩)) := by rw [HN.out.st.ptrs.cell t]; exact ptr_cell hps
              clear hps hst hres hfk
              go_wp2_with fail
              refine HST.out.mono ?_; rintro e w2 ⟨he, hw⟩
              clear f9 f11 z11 HST
              rcases HRES.out with ⟨h6, hok⟩ | ⟨h6, hcode, hv, hfar⟩
              · rw [decide_eq_false h6] at he
                subst he
                have hup := HN.out.th.upd HT.out HN.out.st.lens (fs.getD t 0) (ats.getD t 0) (some (bo, o')) (fun _ => ⟨bo, rfl⟩) (by rw [HA.out, HF0.out]; exact hok)
                rw [set_getD, set_getD] at hup
                have HF : Hid (HoAll W w2 b bw bb bj b9 b10 b11 (k + 1) start jd) := Lib.hid (HoIn.mk hw HN.out.gi HN.out.hj HN.out.jn HN.out.ck HN.out.sk hup).all
                clear hw hup h6 hok HRES
                go_wp2
                go_meet
                case rel => exact HF
              · rw [decide_eq_true h6] at he
                subst he
                have htl : t < ps.length := by have := HN.out.st.lens.2.2; have := HT.out; omega
                have hps2 : (ps.set t (some (bo, o')))[t]? = some (some (bo, o')) := by simp [htl]
                have f9 : w2.cell? ⟨b9, t, none⟩ = some (.pointer (some ⟨bo, 0, none⟩)) := by rw [hw.ptrs.cell t]; exact ptr_cell hps2
                have hrs := hw.least_result hps2
                rw [if_pos h6, if_pos h6, hcode] at hrs
                have HRS := Lib.hid hrs
                have HW := Lib.hid hw
                obtain ⟨v, hvv⟩ : ∃ n, o'.v = n := ⟨_, rfl⟩
                rw [hvv] at HRS hv hfar
                have HV := Lib.hid hv
                have HFAR := Lib.hid hfar
                clear hw hps2 hrs h6 hcode hv hfar htl hvv HRES
                go_wp2_with fail
                refine HRS.out.mono ?_; rintro e w3 ⟨rfl, hb⟩
                have h3 := HW.out.keep hb
                have H3 := Lib.hid h3
                have f11 : w3.cell? ⟨b11, t, none⟩ = some (.int .i64 (ats.getD t 0 : Nat)) := by rw [h3.places.cell t, at_cell h3.lens.2.1 HT.out]
                have z11 : w3.frozen? ⟨b11, t, none⟩ = false := h3.places.free t
                clear hb h3 HW f9 HRS
                go_upto_region 30 with fail
                have h4 := H3.out.place t 2
                generalize w3.setCell ⟨b11, t, none⟩ (.int .i64 2) = w4 at h4 ⊢
                have H4 := Lib.hid h4
                have f10 : w4.cell? ⟨b10, t, none⟩ = some (.int .u64 (f : Nat)) := by rw [h4.froms.cell t, from_cell h4.lens.1 HT.out, HF0.out]
                have f11 : w4.cell? ⟨b11, t, none⟩ = some (.int .i64 ((ats.set t 2).getD t 0 : Nat)) := by rw [h4.places.cell t, at_cell h4.lens.2.1 HT.out]
                have z11 : w4.frozen? ⟨b11, t, none⟩ = false := h4.places.free t
                have hsub : IntKind.u64.wrap ((f : Int) - (v : Int)) = ((f - v : Nat) : Int) := by have := HV.out; have := HFK.out; rw [IntKind.wrap_u64]; omega
                obtain ⟨d, hd⟩ : ∃ d, f - v = d := ⟨_, rfl⟩
                rw [hd] at hsub
                have HD := Lib.hid hd
                clear h4 hd H3
                by_cases hd4 : 4 ≤ d
                · have td : decide ((4 : Int) ≤ (d : Int)) = true := by simp; omega
                  have hup := HN.out.th.upd (o := o') HT.out HN.out.st.lens (fs.getD t 0) 0 (some (bo, o')) (fun h => by simp at h) (.inl rfl)
                  rw [set_getD] at hup
                  have h5 := H4.out.place t 0
                  rw [List.set_set] at h5
                  have HF : Hid (HoAll W (w4.setCell ⟨b11, t, none⟩ (.int .i64 0)) b bw bb bj b9 b10 b11 (k + 1) start jd) := Lib.hid (HoIn.mk h5 HN.out.gi HN.out.hj HN.out.jn HN.out.ck HN.out.sk hup).all
                  clear hup h5 hd4 H4 HD HFAR
                  go_wp2
                  go_meet
                  case rel => exact HF
                · have td : decide ((4 : Int) ≤ (d : Int)) = false := by simp; omega
                  have hup := HN.out.th.upd (o := o') HT.out HN.out.st.lens (fs.getD t 0) 2 (some (bo, o')) (fun h => by simp at h) (by rw [HF0.out]; exact HFAR.out (by rw [HD.out]; omega))
                  rw [set_getD] at hup
                  have HF : Hid (HoAll W w4 b bw bb bj b9 b10 b11 (k + 1) start jd) := Lib.hid (HoIn.mk H4.out HN.out.gi HN.out.hj HN.out.jn HN.out.ck HN.out.sk hup).all
                  clear hup hd4 H4 HD HFAR f11 z11
                  go_wp2
                  go_meet
                  case rel => exact HF
            · have hft : f ≤ c ∧ f ≤ hB c j + 3 := by rcases HTK.out with h | ⟨h, _⟩ | ⟨_, h1, h2⟩; simp at h; simp at h; exact ⟨h1, h2⟩
              have HFT := Lib.hid hft
              have hfk : f ≤ 250 := by have := HN.out.ck; omega
              have f10 : wr.cell? ⟨b10, t, none⟩ = some (.int .u64 (f : Nat)) := by rw [HN.out.st.froms.cell t, from_cell HN.out.st.lens.1 HT.out, HF0.out]
              have hadd : IntKind.u64.wrap ((f : Int) + 1) = ((f + 1 : Nat) : Int) := by rw [IntKind.wrap_u64]; omega
              have HADD := Lib.hid hadd
              have HSW := Lib.hid (swap_calls b bw bb [c, m, 0, x] 0 f (f + 1) wr.drew HN.out.st.at.drew (by simp) (by omega))
              clear hft hfk
              go_wp2_with fail
              go_still_tail 8, (by kernel_rfl)
              change wpList _ _ _ _ _ wr.drew
              clear f10 f11 z11
              try rw [HADD.out]
              go_wp2_with fail
              refine HSW.out.mono ?_; rintro e w2 ⟨rfl, hm, hc⟩
              clear HSW hadd HADD
              have h1 := HN.out.st.keep (Below.refl _ wr).drew
              by_cases hcf : c = f
              · subst hcf
                have e : (if [c, m, 0, x].getD 0 0 = c then [c, m, 0, x].set 0 (c + 1) else [c, m, 0, x]) = [c + 1, m, 0, x] := if_pos rfl
                rw [e] at hm
                have h2 := h1.memory hm hc
                obtain ⟨g1, g2⟩ := hj_claim HN.out.hj HFT.out.2
                have hup := (HN.out.th.mono (Nat.le_succ c) g2 (Nat.le_refl j.pc)).upd (o := o) HT.out HN.out.st.lens (fs.getD t 0) 0 (ps.getD t none) (fun h => by simp at h) (.inl rfl)
                rw [set_getD] at hup
                have eps : ps.set t (ps.getD t none) = ps := by
                  have htl : t < ps.length := by have := HN.out.st.lens.2.2; have := HT.out; omega
                  apply List.ext_getElem
                  · simp
                  · intro i q1 q2
                    rw [List.getElem_set]
                    split
                    · next e => subst e; simp [List.getD, q2]
                    · rfl
                rw [eps] at hup
                have f11 : w2.cell? ⟨b11, t, none⟩ = some (.int .i64 (ats.getD t 0 : Nat)) := by rw [h2.places.cell t, at_cell h2.lens.2.1 HT.out]
                have z11 : w2.frozen? ⟨b11, t, none⟩ = false := h2.places.free t
                have HF : Hid (HoAll W (w2.setCell ⟨b11, t, none⟩ (.int .i64 0)) b bw bb bj b9 b10 b11 (k + 1) start jd) := Lib.hid ⟨c + 1, m, x, j, fs, _, ps, h2.place t 0, HN.out.gi, g1, HN.out.jn, by have := HN.out.ck; omega, by have := HN.out.sk; omega, hup⟩
                clear hm hc h1 h2 e g1 g2 hup eps
                go_wp2
                go_meet
                case rel => exact HF
              · have e : (if [c, m, 0, x].getD 0 0 = f then [c, m, 0, x].set 0 (f + 1) else [c, m, 0, x]) = [c, m, 0, x] := if_neg hcf
                rw [e] at hm
                have h2 := h1.memory hm hc
                have hup := HN.out.th.upd (o := o) HT.out HN.out.st.lens (fs.getD t 0) 0 (ps.getD t none) (fun h => by simp at h) (.inl rfl)
                rw [set_getD] at hup
                have eps : ps.set t (ps.getD t none) = ps := by
                  have htl : t < ps.length := by have := HN.out.st.lens.2.2; have := HT.out; omega
                  apply List.ext_getElem
                  · simp
                  · intro i q1 q2
                    rw [List.getElem_set]
                    split
                    · next e => subst e; simp [List.getD, q2]
                    · rfl
                rw [eps] at hup
                have f11 : w2.cell? ⟨b11, t, none⟩ = some (.int .i64 (ats.getD t 0 : Nat)) := by rw [h2.places.cell t, at_cell h2.lens.2.1 HT.out]
                have z11 : w2.frozen? ⟨b11, t, none⟩ = false := h2.places.free t
                have HF : Hid (HoAll W (w2.setCell ⟨b11, t, none⟩ (.int .i64 0)) b bw bb bj b9 b10 b11 (k + 1) start jd) := Lib.hid (HoIn.mk (h2.place t 0) HN.out.gi HN.out.hj HN.out.jn HN.out.ck HN.out.sk hup).all
                clear hm hc h1 h2 e hup eps hcf
                go_wp2
                go_meet
                case rel => exact HF
          case rest =>
            have HC := hcut
            clear hcut HN HTK HP HA HF0 hw0 hcz hand tge f11 z11
            obtain ⟨c2, m2, x2, j2, fs2, ats2, ps2, hin⟩ := HC.out
            have HN := Lib.hid hin
            clear hin HC
            have hpk := peek_calls b bw bb [c2, m2, 0, x2] 0 1 wc HN.out.st.at (by simp) (by decide) (by decide)
            have HPK := Lib.hid hpk
            clear hpk
            go_wp2_with fail
            refine HPK.out.mono ?_; rintro e w3 ⟨g, cc, he, hcell, _, hb⟩
            obtain rfl : e = .returned (.slice (some ⟨g, 0, none⟩) 1 cc) := he
            have f0 : w3.cell? ⟨g, 0, none⟩ = some (.int .u64 (c2 : Nat)) := hcell 0 (by show 0 < 1; decide)
            have HF : Hid (HoAll W w3 b bw bb bj b9 b10 b11 (k + 1) start jd) := Lib.hid ⟨c2, m2, x2, j2, fs2, ats2, ps2, HN.out.st.keep hb, HN.out.gi, HN.out.hj, HN.out.jn, HN.out.ck, HN.out.sk, HN.out.th⟩
            have hadd : IntKind.u64.wrap ((start : Int) + 4) = ((start + 4 : Nat) : Int) := by have := HN.out.sk; rw [IntKind.wrap_u64]; omega
            have HJN := Lib.hid (show jd = true → c2 ≤ start + 4 from fun h => by obtain ⟨q1, q2⟩ := HN.out.jn h; have := HN.out.hj.cb (by omega); omega)
            clear hcell hb HPK HN
            cases jd with
            | false =>
              clear HJN hadd f0
              go_wp2
              go_roundg (250 - (k + 1))
              case measure => omega
              case rel => exact ⟨k + 1, start, false, by omega, by omega, rfl, rfl, rfl, by go_num, HF⟩
            | true =>
              have tt : decide ((start : Int) + 4 < (c2 : Int)) = false := by have := HJN.out rfl; simp; omega
              clear HJN
              go_wp2
              go_roundg (250 - (k + 1))
              case measure => omega
              case rel => exact ⟨k + 1, start, true, by omega, by omega, rfl, rfl, rfl, by go_num, HF⟩
      · obtain rfl : k = 250 := by omega
        have y0 : wr.cell? ⟨W.heap.size, 0, none⟩ = some (.int .i64 1) := HN.out.st.box.cell 0
        have y1 : wr.cell? ⟨W.heap.size, 1, none⟩ = some (.int .i64 2) := HN.out.st.box.cell 1
        have y2 : wr.cell? ⟨W.heap.size, 2, none⟩ = some (.int .i64 0) := HN.out.st.box.cell 2
        have HCL := Lib.hid (hclaim_calls b bw bb c m x wr HN.out.st.at (by have := HN.out.ck; omega))
        have hadd : IntKind.u64.wrap ((start : Int) + 4) = ((start + 4 : Nat) : Int) := by have := HN.out.sk; rw [IntKind.wrap_u64]; omega
        have hww : HoW W wr b bw bb bj b9 b10 b11 c m x j fs ats ps := HN.out.st
        have hge : W.heap.size ≤ b ∧ W.heap.size ≤ bw := by
          obtain ⟨χ, mp, h⟩ := hww
          obtain ⟨⟨c0, c1, c2, c3, c4, c5, q0⟩, q1, _⟩ := h.mem
          exact ⟨h.hp.ge q0, h.hp.ge q1⟩
        have HGE := Lib.hid hge
        have HJN := Lib.hid (show jd = true → x = start from fun h => by obtain ⟨q1, q2⟩ := HN.out.jn h; have := (HN.out.hj.en q1).1; omega)
        have HBL := Lib.hid hww.below
        clear hww hge HN
        go_wp2_with fail
        refine HCL.out.mono ?_; rintro e w5 ⟨a, p, n, ws, rfl, hap, hm, hc⟩
        have H5 := Lib.hid (And.intro hm (Chg.below HBL.out hc HBL.out.size (fun q hq => by rcases hq with rfl | rfl; exact HGE.out.1; exact HGE.out.2)))
        have HAP := Lib.hid (show jd = true → a ≠ 15 → p < start + 4 from fun h h2 => by have := HJN.out h; rcases hap with h3 | h3; exact absurd h3 h2; omega)
        clear hap hm hc y0 y1 y2 HCL HGE HJN
        have HTR := Lib.hid (trap_calls b bw bb ws _ H5.out.1)
        cases jd with
        | false =>
          clear HAP hadd
          go_wp2_with fail
          refine HTR.out.mono ?_; rintro e w' ⟨rfl, rfl⟩
          go_wp2_with fail
          refine (gone_calls _).mono ?_; rintro e w6 ⟨rfl, hb⟩
          have HF := Lib.hid (H5.out.2.trans (hb.mono H5.out.2.size))
          clear hb
          go_wp2
          go_ret
          exact ⟨rfl, HF.out⟩
        | true =>
          by_cases h15 : a = 15
          · subst h15
            clear HAP hadd
            go_wp2_with fail
            refine HTR.out.mono ?_; rintro e w' ⟨rfl, rfl⟩
            go_wp2_with fail
            refine (gone_calls _).mono ?_; rintro e w6 ⟨rfl, hb⟩
            have HF := Lib.hid (H5.out.2.trans (hb.mono H5.out.2.size))
            clear hb
            go_wp2
            go_ret
            exact ⟨rfl, HF.out⟩
          · have t15 : ((a : Int) == 15) = false := by rw [beq_eq_false_iff_ne]; omega
            have tt : decide ((p : Int) < (start : Int) + 4) = true := by have := HAP.out rfl h15; simp; omega
            clear HAP h15
            go_wp2_with fail
            refine HTR.out.mono ?_; rintro e w' ⟨rfl, rfl⟩
            go_wp2_with fail
            refine (gone_calls _).mono ?_; rintro e w6 ⟨rfl, hb⟩
            have HF := Lib.hid (H5.out.2.trans (hb.mono H5.out.2.size))
            clear hb
            go_wp2
            go_ret
            exact ⟨rfl, HF.out⟩
    · obtain rfl : k = len := by omega
      have y0 : wr.cell? ⟨W.heap.size, 0, none⟩ = some (.int .i64 1) := HN.out.st.box.cell 0
      have y1 : wr.cell? ⟨W.heap.size, 1, none⟩ = some (.int .i64 2) := HN.out.st.box.cell 1
      have y2 : wr.cell? ⟨W.heap.size, 2, none⟩ = some (.int .i64 0) := HN.out.st.box.cell 2
      have HCL := Lib.hid (hclaim_calls b bw bb c m x wr HN.out.st.at (by have := HN.out.ck; omega))
      have hadd : IntKind.u64.wrap ((start : Int) + 4) = ((start + 4 : Nat) : Int) := by have := HN.out.sk; rw [IntKind.wrap_u64]; omega
      have hww : HoW W wr b bw bb bj b9 b10 b11 c m x j fs ats ps := HN.out.st
      have hge : W.heap.size ≤ b ∧ W.heap.size ≤ bw := by
        obtain ⟨χ, mp, h⟩ := hww
        obtain ⟨⟨c0, c1, c2, c3, c4, c5, q0⟩, q1, _⟩ := h.mem
        exact ⟨h.hp.ge q0, h.hp.ge q1⟩
      have HGE := Lib.hid hge
      have HJN := Lib.hid (show jd = true → x = start from fun h => by obtain ⟨q1, q2⟩ := HN.out.jn h; have := (HN.out.hj.en q1).1; omega)
      have HBL := Lib.hid hww.below
      clear hww hge HN
      go_wp2_with fail
      refine HCL.out.mono ?_; rintro e w5 ⟨a, p, n, ws, rfl, hap, hm, hc⟩
      have H5 := Lib.hid (And.intro hm (Chg.below HBL.out hc HBL.out.size (fun q hq => by rcases hq with rfl | rfl; exact HGE.out.1; exact HGE.out.2)))
      have HAP := Lib.hid (show jd = true → a ≠ 15 → p < start + 4 from fun h h2 => by have := HJN.out h; rcases hap with h3 | h3; exact absurd h3 h2; omega)
      clear hap hm hc y0 y1 y2 HCL HGE HJN
      have HTR := Lib.hid (trap_calls b bw bb ws _ H5.out.1)
      cases jd with
      | false =>
        clear HAP hadd
        go_wp2_with fail
        refine HTR.out.mono ?_; rintro e w' ⟨rfl, rfl⟩
        go_wp2_with fail
        refine (gone_calls _).mono ?_; rintro e w6 ⟨rfl, hb⟩
        have HF := Lib.hid (H5.out.2.trans (hb.mono H5.out.2.size))
        clear hb
        go_wp2
        go_ret
        exact ⟨rfl, HF.out⟩
      | true =>
        by_cases h15 : a = 15
        · subst h15
          clear HAP hadd
          go_wp2_with fail
          refine HTR.out.mono ?_; rintro e w' ⟨rfl, rfl⟩
          go_wp2_with fail
          refine (gone_calls _).mono ?_; rintro e w6 ⟨rfl, hb⟩
          have HF := Lib.hid (H5.out.2.trans (hb.mono H5.out.2.size))
          clear hb
          go_wp2
          go_ret
          exact ⟨rfl, HF.out⟩
        · have t15 : ((a : Int) == 15) = false := by rw [beq_eq_false_iff_ne]; omega
          have tt : decide ((p : Int) < (start : Int) + 4) = true := by have := HAP.out rfl h15; simp; omega
          clear HAP h15
          go_wp2_with fail
          refine HTR.out.mono ?_; rintro e w' ⟨rfl, rfl⟩
          go_wp2_with fail
          refine (gone_calls _).mono ?_; rintro e w6 ⟨rfl, hb⟩
          have HF := Lib.hid (H5.out.2.trans (hb.mono H5.out.2.size))
          clear hb
          go_wp2
          go_ret
          exact ⟨rfl, HF.out⟩
end Go.Proofs.Ytjmooohhndjmiaa
