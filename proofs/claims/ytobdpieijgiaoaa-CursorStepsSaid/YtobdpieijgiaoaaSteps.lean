/- the walk of CursorSteps. (Printed by genst.py.) -/
import Derived.Test.YtobdpieijgiaoaaStepsK
import Derived.Test.YtobdpieijgiaoaaStepsL
namespace Go.Proofs.Ytobdpieijgiaoaa
open Go.RowKit Go.Deep
set_option linter.unusedSimpArgs false
set_option linter.unusedVariables false
set_option maxHeartbeats 40000000 in
set_option maxRecDepth 100000 in
theorem cursorSteps_walk (n : Int) (_hn : (Lit.int .i64 n).wf = true) (A : Option Addr) (len cap : Nat) (l : List (List Int)) (A' : Option Addr) (len' cap' : Nat) (l' : List (List Int)) (W : World) (hl : RowsAt W [.i64, .i64] A len cap l) (hl' : RowsAt W [.i64] A' len' cap' l') :
    Calls Try.prog 6 #[.int .i64 n, .slice A len cap, .slice A' len' cap'] W fun e w' => e = .returned (.bool true) ∧ Below W.heap.size W w' := by
  have hlen : len ≤ 9223372036854775807 := by have := hl.2.1; have := hl.2.2.1; omega
  have hlen' : len' ≤ 9223372036854775807 := by have := hl'.2.1; have := hl'.2.2.1; omega
  have HLR := Lib.hid hl
  have HLP := Lib.hid hl'
  have hr := right_size n
  have hsz := sizeN_of n
  have HSZ := fun w => Lib.hid (size_calls n w)
  generalize sizeN n = s at *
  have HR := Lib.hid hr
  have hs8 : s ≤ 8 ∧ 1 ≤ s := by omega
  clear hl hl' hr hsz
  go_enter Try.func6, Try.ntmps6
  go_wp2_with fail
  refine (HSZ W).out.mono ?_; rintro e w' ⟨rfl, rfl⟩
  go_wp2_with fail
  refine (new_calls 4 _ (by decide) (by decide)).mono ?_; rintro e w1 ⟨b, bw, bb, rfl, hm, h1, h2, h3, hb⟩
  have HM := Lib.hid (And.intro hm (And.intro h1 (And.intro h2 (And.intro h3 hb))))
  clear hm h1 h2 h3 hb
  go_wp2_with fail
  refine (refnew_calls 4 _ (by decide) (by decide)).mono ?_; rintro e w2 ⟨gw, gb, rfl, hm, h1, h2, hb⟩
  have HX := Lib.hid (And.intro hm (And.intro h1 (And.intro h2 hb)))
  clear hm h1 h2 hb
  go_upto_region 4 with fail
  obtain ⟨χ, m, hp, hm1, hm2, hm3⟩ := st_start (s := s) HM.out.1 (by have := HM.out.2.1; simpa using this) (by have := HM.out.2.2.1; simpa using this) (by have := HM.out.2.2.2.1; simpa using this) (by have := HM.out.2.2.2.2; simpa using this) HX.out.1 HX.out.2.1 HX.out.2.2.1 HX.out.2.2.2
  generalize w2.alloc (.cells #[.slice (some ⟨gw, 0, none⟩) 4 4, .slice (some ⟨gb, 0, none⟩) 4 4, .int .i64 0, .int .i64 0, .int .i64 0, .int .i64 0, .int .i64 0, .int .i64 0, .int .i64 (-1), .bool false] 56) = w3 at hp ⊢
  generalize w2.heap.size = bx at *
  have HP := Lib.hid (And.intro hp (And.intro hm1 (And.intro hm2 hm3)))
  have x0 : w3.cell? ⟨W.heap.size, 0, none⟩ = some (.int .i64 0) := (hp.blk hm1).cell 0
  have x1 : w3.cell? ⟨W.heap.size, 1, none⟩ = some (.int .i64 s) := (hp.blk hm1).cell 1
  clear hp hm1 hm2 hm3 HM HX
  go_wp2_with fail
  refine (setup_calls 0 s 5 b bw bb [0, 0, 0, 0] w3 (HP.out.2.2.1.at HP.out.1) HR.out (by decide) (by decide)).mono ?_; rintro e w4 ⟨rfl, hm4, hc4⟩
  obtain ⟨x, y, hp4, hmi4⟩ := HP.out.1.mem HP.out.2.2.1 hc4 hm4 rfl
  have hrf4 := (HP.out.2.2.2.upd (u := 2) x (by omega) (by omega) (by omega)).upd (u := 2 + 1) y (by omega) (by omega) (by omega)
  have hbx4 : ((m.upd 2 x).upd (2 + 1) y) 1 = some (W.heap.size, 23, [.int .i64 0, .int .i64 (s : Nat)]) := by rw [HMap.upd_ne _ _ (by omega), HMap.upd_ne _ _ (by omega)]; exact HP.out.2.1
  have HP4 := Lib.hid (And.intro hp4 (And.intro hbx4 (And.intro hmi4 hrf4)))
  obtain ⟨⟨cc, d0, d1, d2, d3, d4, d5, kx⟩, ⟨rr, kw⟩, _⟩ := hrf4
  have y0 : w4.cell? ⟨bx, 0, none⟩ = some (.slice (some ⟨gw, 0, none⟩) 4 cc) := (hp4.blk kx).cell 0
  have y1 : w4.cell? ⟨gw, 0, none⟩ = some (.int .u64 0) := (hp4.blk kw).cell 0
  have z1 : w4.frozen? ⟨gw, 0, none⟩ = false := (hp4.blk kw).free 0
  clear hm4 hc4 hp4 hmi4 hbx4 kx kw x0 x1 HP
  go_upto_region 7 with fail
  obtain ⟨x5, hp5, hrf5⟩ := HP4.out.1.refset HP4.out.2.2.2 0 5 (by decide) (by decide)
  have hmi5 := HP4.out.2.2.1.upd (u := 6) x5 (by omega) (by omega) (by omega)
  have hbx5 : (((m.upd 2 x).upd (2 + 1) y).upd 6 x5) 1 = some (W.heap.size, 23, [.int .i64 0, .int .i64 (s : Nat)]) := by rw [HMap.upd_ne _ _ (by omega)]; exact HP4.out.2.1
  obtain ⟨χ6, m6, hst⟩ := st_start2 hp5 hbx5 hmi5 hrf5 rfl rfl
  clear hp5 hrf5 hmi5 hbx5 HP4 y0 y1 z1
  simp only [World.size_setCell] at hst
  have HS0 : Hid (∃ χ m, St W ((w4.setCell ⟨gw, 0, none⟩ (.int .u64 5)).alloc (.cells #[.int .i64 1, .int .i64 2, .int .i64 3] 3)) χ m W.heap.size s w4.heap.size b bw bb bx gw gb (.slice none 0 0) (.slice none 0 0) [5, 0, 0, 0] [5, 0, 0, 0] [] []) := Lib.hid ⟨χ6, m6, hst⟩
  clear hst
  go_upto_block 0 with fail
  generalize (w4.setCell ⟨gw, 0, none⟩ (.int .u64 5)).alloc (.cells #[.int .i64 1, .int .i64 2, .int .i64 3] 3) = w6 at HS0 ⊢
  generalize w4.heap.size = ba at *
  go_cut [13, 14] (fun v7 v8 wx => ∃ (es : List Ent) (χ : Nat → Nat) (m : HMap), es.length ≤ 10 ∧ Hid (∀ e ∈ es, e.r = e.o) ∧ Hid (es.length = 0 → v7 = .slice none 0 0 ∧ v8 = .slice none 0 0) ∧ Hid (St W wx χ m W.heap.size s ba b bw bb bx gw gb v7 v8 [5, 0, 0, 0] [5, 0, 0, 0] (es.map Ent.bo) es))
  case first =>
    rename_i JX KX hJX hKX
    exact loop1_walk n A len cap l A' len' cap' l' W _ hlen hlen' HLR HLP s HR hs8 b bw bb gw gb bx ba HS0 _ _ _ _ _ _ _ _ _ _ _ _ _ _ _ _ _ _ _ _ _ _ _ _ _ _ _ JX KX _ hJX hKX
  case rest =>
    obtain ⟨es, χ, m, hel, HEQ, HNIL, HS⟩ := hcut
    have HEL := Lib.hid hel
    clear hel HS0
    obtain ⟨wb, rfl⟩ : ∃ wb : World, wb = wc := ⟨_, rfl⟩
    by_cases hn0 : es.length = 0
    · obtain ⟨rfl, rfl⟩ := HNIL.out hn0
      have hes : es = [] := List.eq_nil_of_length_eq_zero hn0
      subst hes
      clear HNIL HEQ HEL hn0
      go_upto_block 2 with fail
      go_cut [18] (fun i wx => wx = wb)
      case first =>
        go_wp2_with fail
        go_loopg [18] 0 (fun g i wr => i = .int .i64 0 ∧ wr = wb)
        case atStart => exact ⟨rfl, rfl⟩
        case round =>
          obtain ⟨rfl, rfl⟩ := hrel
          by_cases hl0 : 0 < len'
          · have t0 : decide (0 < len') = true := by simp [hl0]
            clear hl0
            go_wp2
            go_meet
            case rel => trivial
          · have t0 : decide (0 < len') = false := by simp; omega
            clear hl0
            go_wp2
            go_meet
            case rel => trivial
      case rest =>
        obtain rfl := hcut
        obtain ⟨ws, hws⟩ : ∃ ws : List Nat, ws = [5, 0, 0, 0] := ⟨_, rfl⟩
        rw [← hws] at HS
        clear hws
        go_wp2_with fail
        refine (peek_calls b bw bb ws 0 4 _ (HS.out.mem.at HS.out.hp) (by rw [HS.out.lw]; decide) (by decide) (by decide)).mono ?_; rintro e w1 ⟨g, c, he, hcell, _, hb⟩
        rw [HS.out.lw] at he hcell
        obtain rfl : e = .returned (.slice (some ⟨g, 0, none⟩) 4 c) := he
        have H1 := Lib.hid (HS.out.keep hb)
        have HCE : Hid (∀ i, i < 4 → w1.cell? ⟨g, i, none⟩ = some (.int .u64 (ws.getD i 0 : Nat))) := Lib.hid (fun i hi => by have h := hcell i (by show i < 4; exact hi); rw [Nat.zero_add] at h; exact h)
        obtain ⟨⟨cx, d0, d1, d2, d3, d4, d5, hx5⟩, _⟩ := H1.out.ref
        have HX5 := Lib.hid hx5
        have HB1 : Hid (Below w1.heap.size w1 w1) := Lib.hid (Below.refl _ _)
        clear hcell hb hx5
        go_wp2_with fail
        go_loopg [24] 4 (fun g i wr => ∃ k : Nat, k ≤ 4 ∧ g = 4 - k ∧ i = .int .i64 k ∧ Hid (Below w1.heap.size w1 wr))
        case atStart => exact ⟨0, by omega, rfl, rfl, HB1⟩
        case round =>
          obtain ⟨k, hk, rfl, rfl, HB⟩ := hrel
          by_cases hk4 : k < 4
          · have hst2 := H1.out.keep HB.out
            have f1 := kcell HB.out (HCE.out k hk4)
            have f2 : wr.cell? ⟨bx, 0, none⟩ = some (.slice (some ⟨gw, 0, none⟩) 4 cx) := by rw [← hst2.lx]; exact (hst2.hp.blk HX5.out).cell 0
            have f3 := (hst2.ref.at hst2.hp).word k (by rw [hst2.lx]; exact hk4)
            have HB2 := Lib.hid HB.out
            clear hst2
            generalize ws.getD k 0 = x at f1 f3
            have i1 : (k : Int) < 4 := by omega
            have i0 : (0 : Int) ≤ (k : Int) := Int.natCast_nonneg k
            go_wp2_with fail
            go_quiet (fail)
            have HB3 := Lib.hid (bseq HB2.out (below_of_chg ((Chg.refl (fun _ => False) wr).drewN nq)))
            clear f1 f2 f3
            go_wp2
            go_roundg (4 - (k + 1))
            case measure => omega
            case rel => exact ⟨k + 1, by omega, rfl, by go_num, HB3⟩
          · obtain rfl : k = 4 := by omega
            clear hk4
            go_wp2_with fail
            go_loopg [25] 0 (fun g i wx => ∃ k : Nat, k ≤ 0 ∧ g = 0 - k ∧ i = .int .i64 k ∧ Hid (Below w1.heap.size w1 wx))
            case atStart => exact ⟨0, by omega, rfl, rfl, HB⟩
            case round =>
              clear HB
              obtain ⟨k, hk, rfl, rfl, HB⟩ := hrel
              by_cases hkn : k < 0
              · omega
              · obtain rfl : k = 0 := by omega
                clear hkn
                go_wp2_with fail
                refine (one_calls _).mono ?_; rintro e w9 ⟨rfl, hb⟩
                have HE := Lib.hid (bseq (bseq H1.out.hp.below HB.out) hb)
                clear hb
                go_wp2
                go_ret
                exact ⟨rfl, HE.out⟩
    · obtain ⟨g7, cap7, cur7, rfl, hm7, _, _, _, hcur7⟩ := HS.out.pos7 (by rw [List.length_map]; omega)
      obtain ⟨g8, cap8, cur8, rfl, hm8, _, _, _, hcur8⟩ := HS.out.pos8 (by omega)
      have hmap : (es.map Ent.bo).length = es.length := List.length_map ..
      rw [hmap] at HS ⊢
      clear hmap hm7 hcur7 hm8 hcur8 HNIL
      obtain ⟨n', hn'⟩ : ∃ n', es.length = n' := ⟨_, rfl⟩
      have H0 : Hid (∃ (es : List Ent) (χ : Nat → Nat) (m : HMap) (ws : List Nat) (gw : Nat), es.length = n' ∧ (∀ e ∈ es, e.r = e.o) ∧ St W wb χ m W.heap.size s ba b bw bb bx gw gb (.slice (some ⟨g7, 0, none⟩) n' cap7) (.slice (some ⟨g8, 0, none⟩) n' cap8) ws ws (es.map Ent.bo) es) := Lib.hid ⟨es, χ, m, [5, 0, 0, 0], gw, hn', HEQ.out, by rw [← hn']; exact HS.out⟩
      have hnn : 1 ≤ n' ∧ n' ≤ 10 := by have := HEL.out; omega
      rw [hn']
      clear hn0 hn' HS HEQ HEL
      go_upto_block 2 with fail
      go_cut [18] (fun i wx => Hid (∃ (es : List Ent) (χ : Nat → Nat) (m : HMap) (ws : List Nat) (gw : Nat), es.length = n' ∧ (∀ e ∈ es, e.r = e.o) ∧ St W wx χ m W.heap.size s ba b bw bb bx gw gb (.slice (some ⟨g7, 0, none⟩) n' cap7) (.slice (some ⟨g8, 0, none⟩) n' cap8) ws ws (es.map Ent.bo) es))
      case first =>
        rename_i JX KX hJX hKX
        exact loop2_walk n A len cap l A' len' cap' l' W _ hlen hlen' HLR HLP s HR hs8 b bw bb gw gb bx ba g7 cap7 g8 cap8 n' hnn H0 _ _ _ _ _ _ _ _ _ _ _ _ _ _ _ _ _ _ _ _ _ _ _ _ _ _ _ _ _ _ _ _ _ _ _ _ _ _ _ _ _ _ _ _ _ _ _ _ _ _ _ _ _ _ _ _ _ _ _ _ _ _ _ _ _ _ _ _ _ _ _ _ _ _ _ _ _ _ _ _ _ _ JX KX _ hJX hKX
      case rest =>
        obtain ⟨es, χ, m, ws, gw, hel, heq, hst⟩ := hcut.out
        have HEL := Lib.hid hel
        have HEQ := Lib.hid heq
        have HS := Lib.hid hst
        clear hel heq hst hcut
        go_wp2_with fail
        refine (peek_calls b bw bb ws 0 4 _ (HS.out.mem.at HS.out.hp) (by rw [HS.out.lw]; decide) (by decide) (by decide)).mono ?_; rintro e w1 ⟨g, c, he, hcell, _, hb⟩
        rw [HS.out.lw] at he hcell
        obtain rfl : e = .returned (.slice (some ⟨g, 0, none⟩) 4 c) := he
        have H1 := Lib.hid (HS.out.keep hb)
        have HCE : Hid (∀ i, i < 4 → w1.cell? ⟨g, i, none⟩ = some (.int .u64 (ws.getD i 0 : Nat))) := Lib.hid (fun i hi => by have h := hcell i (by show i < 4; exact hi); rw [Nat.zero_add] at h; exact h)
        obtain ⟨⟨cx, d0, d1, d2, d3, d4, d5, hx5⟩, _⟩ := H1.out.ref
        have HX5 := Lib.hid hx5
        have HB1 : Hid (Below w1.heap.size w1 w1) := Lib.hid (Below.refl _ _)
        clear hcell hb hx5
        go_wp2_with fail
        go_loopg [24] 4 (fun g i wr => ∃ k : Nat, k ≤ 4 ∧ g = 4 - k ∧ i = .int .i64 k ∧ Hid (Below w1.heap.size w1 wr))
        case atStart => exact ⟨0, by omega, rfl, rfl, HB1⟩
        case round =>
          obtain ⟨k, hk, rfl, rfl, HB⟩ := hrel
          by_cases hk4 : k < 4
          · have hst2 := H1.out.keep HB.out
            have f1 := kcell HB.out (HCE.out k hk4)
            have f2 : wr.cell? ⟨bx, 0, none⟩ = some (.slice (some ⟨gw, 0, none⟩) 4 cx) := by rw [← hst2.lx]; exact (hst2.hp.blk HX5.out).cell 0
            have f3 := (hst2.ref.at hst2.hp).word k (by rw [hst2.lx]; exact hk4)
            have HB2 := Lib.hid HB.out
            clear hst2
            generalize ws.getD k 0 = x at f1 f3
            have i1 : (k : Int) < 4 := by omega
            have i0 : (0 : Int) ≤ (k : Int) := Int.natCast_nonneg k
            go_wp2_with fail
            go_quiet (fail)
            have HB3 := Lib.hid (bseq HB2.out (below_of_chg ((Chg.refl (fun _ => False) wr).drewN nq)))
            clear f1 f2 f3
            go_wp2
            go_roundg (4 - (k + 1))
            case measure => omega
            case rel => exact ⟨k + 1, by omega, rfl, by go_num, HB3⟩
          · obtain rfl : k = 4 := by omega
            clear hk4
            go_wp2_with fail
            go_loopg [25] n' (fun g i wx => ∃ k : Nat, k ≤ n' ∧ g = n' - k ∧ i = .int .i64 k ∧ Hid (Below w1.heap.size w1 wx))
            case atStart => exact ⟨0, by omega, rfl, rfl, HB⟩
            case round =>
              clear HB
              obtain ⟨k, hk, rfl, rfl, HB⟩ := hrel
              by_cases hkn : k < n'
              · have hkl : k < es.length := by rw [HEL.out]; exact hkn
                obtain ⟨e, he⟩ : ∃ e, es[k]? = some e := ⟨_, List.getElem?_eq_getElem hkl⟩
                have hro := HEQ.out e (List.mem_of_getElem? he)
                obtain ⟨bo, bwd, o0, o, bq, cq⟩ := e
                have hro : o = o0 := hro
                subst hro
                have HE := Lib.hid he
                have hst2 := H1.out.keep HB.out
                have HS2 := Lib.hid hst2
                have hps : (es.map Ent.bo)[k]? = some bo := by rw [List.getElem?_map, he]; rfl
                obtain ⟨gx, capx, cur, hv, hm7, _, _, _, hc7⟩ := hst2.pos7 (by rw [List.length_map]; omega)
                have hgx := (slice_inj hv).1
                subst hgx
                have y0 : wr.cell? ⟨g7, k, none⟩ = some (.pointer (some ⟨bo, 0, none⟩)) := cell7 hst2.hp hm7 hc7 hps
                have hno : o.pc ≤ 3 := (hst2.ent k _ he).2.2.2.1.pc
                have HNO := Lib.hid hno
                have hres := s_result (hst2.at he).1
                have HRS := Lib.hid hres
                have i1 : (k : Int) < (n' : Int) := by omega
                have i0 : (0 : Int) ≤ (k : Int) := Int.natCast_nonneg k
                clear hst2 hv hm7 hc7 hps hres hno he hkl
                by_cases hp3 : o.pc = 3
                · have hre := HRS.out
                  simp only [hp3, if_true] at hre
                  have t3 : decide ((3 : Int) ≤ (o.pc : Int)) = true := by rw [hp3]; rfl
                  have t4 : decide ((o.pc : Int) < 3) = false := by rw [hp3]; rfl
                  have HRE := Lib.hid hre
                  clear hre hp3
                  go_wp2_with fail
                  refine HRE.out.mono ?_; rintro e w2 ⟨he, hb⟩
                  obtain rfl : e = .returned (.tuple #[.int .i64 (o.code : Nat), .int .u64 (o.p : Nat)]) := he
                  have hst3 := HS2.out.keep hb
                  have HB3 := Lib.hid (bseq HB.out hb)
                  obtain ⟨gy, capy, cur, hv, hm8, _, _, _, hc8⟩ := hst3.pos8 (by rw [HEL.out]; omega)
                  have hgy := (slice_inj hv).1
                  subst hgy
                  have c8 := cell8 hst3.hp hm8 hc8 HE.out
                  have f4 : w2.cell? ⟨g8, k * 9 + 4, none⟩ = some (.int .i64 o.pc) := c8 4 (by decide)
                  have f6 : w2.cell? ⟨g8, k * 9 + 6, none⟩ = some (.int .u64 o.p) := c8 6 (by decide)
                  have f8 : w2.cell? ⟨g8, k * 9 + 8, none⟩ = some (.int .i64 o.code) := c8 8 (by decide)
                  clear hst3 hv hm8 hc8 c8 hb
                  go_wp2
                  go_roundg (n' - (k + 1))
                  case measure => omega
                  case rel => exact ⟨k + 1, by omega, rfl, by go_num, HB3⟩
                · have hre := HRS.out
                  simp only [hp3, if_false] at hre
                  have t3 : decide ((3 : Int) ≤ (o.pc : Int)) = false := by have := HNO.out; rw [decide_eq_false_iff_not]; omega
                  have t4 : decide ((o.pc : Int) < 3) = true := by have := HNO.out; rw [decide_eq_true_eq]; omega
                  have HRE := Lib.hid hre
                  clear hre hp3
                  go_wp2_with fail
                  refine HRE.out.mono ?_; rintro e w2 ⟨he, hb⟩
                  obtain rfl : e = .returned (.tuple #[.int .i64 0, .int .u64 0]) := he
                  have hst3 := HS2.out.keep hb
                  have HB3 := Lib.hid (bseq HB.out hb)
                  obtain ⟨gy, capy, cur, hv, hm8, _, _, _, hc8⟩ := hst3.pos8 (by rw [HEL.out]; omega)
                  have hgy := (slice_inj hv).1
                  subst hgy
                  have c8 := cell8 hst3.hp hm8 hc8 HE.out
                  have f4 : w2.cell? ⟨g8, k * 9 + 4, none⟩ = some (.int .i64 o.pc) := c8 4 (by decide)
                  have f6 : w2.cell? ⟨g8, k * 9 + 6, none⟩ = some (.int .u64 o.p) := c8 6 (by decide)
                  have f8 : w2.cell? ⟨g8, k * 9 + 8, none⟩ = some (.int .i64 o.code) := c8 8 (by decide)
                  clear hst3 hv hm8 hc8 c8 hb
                  go_wp2
                  go_roundg (n' - (k + 1))
                  case measure => omega
                  case rel => exact ⟨k + 1, by omega, rfl, by go_num, HB3⟩
              · obtain rfl : k = n' := by omega
                clear hkn
                go_wp2_with fail
                refine (one_calls _).mono ?_; rintro e w9 ⟨rfl, hb⟩
                have HE := Lib.hid (bseq (bseq H1.out.hp.below HB.out) hb)
                clear hb
                go_wp2
                go_ret
                exact ⟨rfl, HE.out⟩
end Go.Proofs.Ytobdpieijgiaoaa
