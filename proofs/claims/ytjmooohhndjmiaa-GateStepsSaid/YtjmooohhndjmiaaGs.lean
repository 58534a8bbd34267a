/- the walk of GateSteps. (Printed by genstg.py.) -/
import Derived.Test.YtjmooohhndjmiaaGsK
import Derived.Test.YtjmooohhndjmiaaGsL
namespace Go.Proofs.Ytjmooohhndjmiaa
open Go.RowKit Go.Deep
set_option linter.unusedSimpArgs false
set_option linter.unusedVariables false

set_option maxHeartbeats 40000000 in
set_option maxRecDepth 100000 in
theorem gateSteps_walk (mn : Int) (_hn : (Lit.int .i64 mn).wf = true) (A : Option Addr) (len cap : Nat) (l : List (List Int)) (A' : Option Addr) (len' cap' : Nat) (l' : List (List Int)) (W : World) (hl : RowsAt W [.i64, .i64, .u64] A len cap l) (hl' : RowsAt W [.i64] A' len' cap' l') :
    Calls Try.prog 3 #[.int .i64 mn, .slice A len cap, .slice A' len' cap'] W fun e w' => e = .returned (.bool true) ∧ Below W.heap.size W w' := by
  have hlen : len ≤ 9223372036854775807 := by have := hl.2.1; have := hl.2.2.1; omega
  have hlen' : len' ≤ 9223372036854775807 := by have := hl'.2.1; have := hl'.2.2.1; omega
  have HLR := Lib.hid hl
  have HLP := Lib.hid hl'
  obtain ⟨d, hd⟩ : ∃ d : Nat, mn % 4 = d := ⟨(mn % 4).toNat, by omega⟩
  have hand : bits .and .i64 mn 3 = (d : Int) := by rw [and3, hd]
  obtain ⟨M, hM⟩ : ∃ M, 1 + d = M := ⟨_, rfl⟩
  have hd4 : (d : Int) < 4 := by omega
  have HG : Hid (GOk 1 M 0) := Lib.hid ⟨by decide, by omega, by omega, by decide⟩
  have HM4 : Hid (M ≤ 4) := Lib.hid (by omega)
  have HMI : Hid ((1 : Int) + (d : Int) = (M : Int)) := Lib.hid (by omega)
  clear hl hl' _hn hd hM
  go_enter Try.func3, Try.ntmps3
  go_wp2_with fail
  rw [HMI.out]
  obtain ⟨W1, hW⟩ : ∃ W1, W1 = W.alloc (.cells #[.int .i64 1, .int .i64 M, .int .i64 0] 25) := ⟨_, rfl⟩
  rw [← hW]
  have hW1s : W1.heap.size = W.heap.size + 1 := by rw [hW]; simp
  have HW := Lib.hid hW
  clear hW hand hd4
  refine (new_calls 6 W1 (by decide) (by decide)).mono ?_; rintro e w1 ⟨b, bw, bb, rfl, hm, h1, h2, h3, hb⟩
  have HM := Lib.hid (And.intro hm (And.intro (show W.heap.size + 1 ≤ b by omega) (And.intro (show W.heap.size + 1 ≤ bw by omega) (And.intro (show W.heap.size + 1 ≤ bb by omega) (show Below (W.heap.size + 1) (W.alloc (.cells #[.int .i64 1, .int .i64 (M : Int), .int .i64 0] 25)) w1 by rw [← HW.out, ← hW1s]; exact hb)))))
  clear hm h1 h2 h3 hb hW1s
  go_wp2_with fail
  refine (refnew_calls 6 w1 (by decide) (by decide)).mono ?_; rintro e w2 ⟨gw, gb, rfl, hm, h1, h2, hb⟩
  have HX := Lib.hid (And.intro hm (And.intro h1 (And.intro h2 hb)))
  clear hm h1 h2 hb
  go_upto_region 4 with fail
  obtain ⟨χ, m, hst⟩ := st_start (M := M) HM.out.1 HM.out.2.1 HM.out.2.2.1 HM.out.2.2.2.1 HM.out.2.2.2.2 HX.out.1 HX.out.2.1 HX.out.2.2.1 HX.out.2.2.2
  generalize w2.alloc (.cells #[.slice (some ⟨gw, 0, none⟩) 6 6, .slice (some ⟨gb, 0, none⟩) 6 6, .int .i64 0, .int .i64 0, .int .i64 0, .int .i64 0, .int .i64 0, .int .i64 0, .int .i64 (-1), .bool false] 34) = w3 at hst ⊢
  generalize w2.heap.size = bx at hst ⊢
  have HP := Lib.hid hst
  have x0 : w3.cell? ⟨W.heap.size, 0, none⟩ = some (.int .i64 1) := (hst.hp.blk hst.box).cell 0
  have x1 : w3.cell? ⟨W.heap.size, 1, none⟩ = some (.int .i64 M) := (hst.hp.blk hst.box).cell 1
  have x2 : w3.cell? ⟨W.heap.size, 2, none⟩ = some (.int .i64 0) := (hst.hp.blk hst.box).cell 2
  clear hst HM HX HW
  go_wp2_with fail
  refine (gsetup_calls 1 M 0 6 b bw bb w3 (HP.out.mem.at HP.out.hp) HG.out (by have := HM4.out; omega) (by decide)).mono ?_; rintro e w4 ⟨rfl, hm4, hc4⟩
  obtain ⟨m4, hst4⟩ := HP.out.store hc4 hm4 rfl
  have HS0 : Hid (∃ χ m, St W w4 χ m W.heap.size M b bw bb bx gw gb (.slice none 0 0) (.slice none 0 0) [0, 0, 0, 0, 0, 0] [0, 0, 0, 0, 0, 0] [] []) := Lib.hid ⟨χ, m4, hst4⟩
  clear hm4 hc4 hst4 x0 x1 x2 HP
  go_upto_block 0 with fail
  go_cut [12, 13] (fun v7 v8 wx => ∃ (es : List Ent) (χ : Nat → Nat) (m : HMap), es.length ≤ 12 ∧ Hid (∀ e ∈ es, GRel e.o e.r) ∧ Hid (es.length = 0 → v7 = .slice none 0 0 ∧ v8 = .slice none 0 0) ∧ Hid (St W wx χ m W.heap.size M b bw bb bx gw gb v7 v8 [0, 0, 0, 0, 0, 0] [0, 0, 0, 0, 0, 0] (es.map Ent.bo) es))
  case first =>
    rename_i JX KX hJX hKX
    exact gloop1_walk mn A len cap l A' len' cap' l' W _ hlen hlen' HLR HLP M HG HM4 b bw bb gw gb bx HS0 _ _ _ _ _ _ _ _ _ _ _ _ _ _ _ _ _ _ _ _ _ _ _ _ JX KX _ hJX hKX
  case rest =>
    obtain ⟨es, χ, m, hel, HEQ, HNIL, HS⟩ := hcut
    have HEL := Lib.hid hel
    clear hel HS0
    obtain ⟨wb, rfl⟩ : ∃ wb : World, wb = wc := ⟨_, rfl⟩
    by_cases hn0 : es.length = 0
    · obtain ⟨rfl, rfl⟩ := HNIL.out hn0
      have hes : es = [] := List.eq_nil_of_length_eq_zero hn0
      subst hes
      clear HNIL HEQ HEL hn0
      go_upto_block 2 with fail
      go_cut [17] (fun i wx => wx = wb)
      case first =>
        go_wp2_with fail
        go_loopg [17] 0 (fun g i wr => i = .int .i64 0 ∧ wr = wb)
        case atStart => exact ⟨rfl, rfl⟩
        case round =>
          obtain ⟨rfl, rfl⟩ := hrel
          by_cases hl0 : 0 < len'
          · have t0 : decide (0 < len') = true := by simp [hl0]
            clear hl0
            go_wp2
            go_meet
            case rel => trivial
          · have t0 : decide (0 < len') = false := by simp; omega
            clear hl0
            go_wp2
            go_meet
            case rel => trivial
      case rest =>
        obtain rfl := hcut
        obtain ⟨ws, hws⟩ : ∃ ws : List Nat, ws = [0, 0, 0, 0, 0, 0] := ⟨_, rfl⟩
        rw [← hws] at HS
        clear hws
        go_wp2_with fail
        refine (peek_calls b bw bb ws 0 6 _ (HS.out.mem.at HS.out.hp) (by rw [HS.out.lw]; decide) (by decide) (by decide)).mono ?_; rintro e w1 ⟨g, c, he, hcell, _, hb⟩
        rw [HS.out.lw] at he hcell
        obtain rfl : e = .returned (.slice (some ⟨g, 0, none⟩) 6 c) := he
        have H1 := Lib.hid (HS.out.keep hb)
        have HCE : Hid (∀ i, i < 6 → w1.cell? ⟨g, i, none⟩ = some (.int .u64 (ws.getD i 0 : Nat))) := Lib.hid (fun i hi => by have h := hcell i (by show i < 6; exact hi); rw [Nat.zero_add] at h; exact h)
        obtain ⟨⟨cx, d0, d1, d2, d3, d4, d5, hx5⟩, _⟩ := H1.out.ref
        have HX5 := Lib.hid hx5
        have HB1 : Hid (Below w1.heap.size w1 w1) := Lib.hid (Below.refl _ _)
        clear hcell hb hx5
        go_wp2_with fail
        go_loopg [23] 6 (fun g i wr => ∃ k : Nat, k ≤ 6 ∧ g = 6 - k ∧ i = .int .i64 k ∧ Hid (Below w1.heap.size w1 wr))
        case atStart => exact ⟨0, by omega, rfl, rfl, HB1⟩
        case round =>
          obtain ⟨k, hk, rfl, rfl, HB⟩ := hrel
          by_cases hk6 : k < 6
          · have hst2 := H1.out.keep HB.out
            have f1 := kcell HB.out (HCE.out k hk6)
            have f2 : wr.cell? ⟨bx, 0, none⟩ = some (.slice (some ⟨gw, 0, none⟩) 6 cx) := by rw [← hst2.lx]; exact (hst2.hp.blk HX5.out).cell 0
            have f3 := (hst2.ref.at hst2.hp).word k (by rw [hst2.lx]; exact hk6)
            have HB2 := Lib.hid HB.out
            clear hst2
            generalize ws.getD k 0 = x at f1 f3
            have i1 : (k : Int) < 6 := by omega
            have i0 : (0 : Int) ≤ (k : Int) := Int.natCast_nonneg k
            go_wp2_with fail
            go_quiet (fail)
            have HB3 := Lib.hid (bseq HB2.out (below_of_chg ((Chg.refl (fun _ => False) wr).drewN nq)))
            clear f1 f2 f3
            go_wp2
            go_roundg (6 - (k + 1))
            case measure => omega
            case rel => exact ⟨k + 1, by omega, rfl, by go_num, HB3⟩
          · obtain rfl : k = 6 := by omega
            clear hk6
            go_wp2_with fail
            go_loopg [24] 0 (fun g i wx => ∃ k : Nat, k ≤ 0 ∧ g = 0 - k ∧ i = .int .i64 k ∧ Hid (Below w1.heap.size w1 wx))
            case atStart => exact ⟨0, by omega, rfl, rfl, HB⟩
            case round =>
              clear HB
              obtain ⟨k, hk, rfl, rfl, HB⟩ := hrel
              by_cases hkn : k < 0
              · omega
              · obtain rfl : k = 0 := by omega
                clear hkn
                go_wp2_with fail
                refine (gone_calls _).mono ?_; rintro e w9 ⟨rfl, hb⟩
                have HE := Lib.hid (bseq (bseq H1.out.hp.below HB.out) hb)
                clear hb
                go_wp2
                go_ret
                exact ⟨rfl, HE.out⟩
    · obtain ⟨g7, cap7, cur7, rfl, hm7, _, _, _, hcur7⟩ := HS.out.pos7 (by rw [List.length_map]; omega)
      obtain ⟨g8, cap8, cur8, rfl, hm8, _, _, _, hcur8⟩ := HS.out.pos8 (by omega)
      have hmap : (es.map Ent.bo).length = es.length := List.length_map ..
      rw [hmap] at HS ⊢
      clear hmap hm7 hcur7 hm8 hcur8 HNIL
      obtain ⟨n', hn'⟩ : ∃ n', es.length = n' := ⟨_, rfl⟩
      have hmk0 : ([0, 0, 0, 0, 0, 0] : List Nat).getD 1 0 < 2 ^ M := Nat.two_pow_pos M
      have H0 : Hid (∃ (es : List Ent) (χ : Nat → Nat) (m : HMap) (ws : List Nat) (gw : Nat), es.length = n' ∧ (∀ e ∈ es, GRel e.o e.r) ∧ ws.getD 1 0 < 2 ^ M ∧ St W wb χ m W.heap.size M b bw bb bx gw gb (.slice (some ⟨g7, 0, none⟩) n' cap7) (.slice (some ⟨g8, 0, none⟩) n' cap8) ws ws (es.map Ent.bo) es) := Lib.hid ⟨es, χ, m, [0, 0, 0, 0, 0, 0], gw, hn', HEQ.out, hmk0, by rw [← hn']; exact HS.out⟩
      have hnn : 1 ≤ n' ∧ n' ≤ 12 := by have := HEL.out; omega
      rw [hn']
      clear hn0 hn' HS HEQ HEL hmk0
      go_upto_block 2 with fail
      go_cut [17] (fun i wx => Hid (∃ (es : List Ent) (χ : Nat → Nat) (m : HMap) (ws : List Nat) (gw : Nat), es.length = n' ∧ (∀ e ∈ es, GRel e.o e.r) ∧ ws.getD 1 0 < 2 ^ M ∧ St W wx χ m W.heap.size M b bw bb bx gw gb (.slice (some ⟨g7, 0, none⟩) n' cap7) (.slice (some ⟨g8, 0, none⟩) n' cap8) ws ws (es.map Ent.bo) es))
      case first =>
        rename_i JX KX hJX hKX
        exact gloop2_walk mn A len cap l A' len' cap' l' W _ hlen hlen' HLR HLP M HG HM4 b bw bb gw gb bx g7 cap7 g8 cap8 n' hnn H0 _ _ _ _ _ _ _ _ _ _ _ _ _ _ _ _ _ _ _ _ _ _ _ _ _ _ _ _ _ _ _ _ _ _ _ _ _ _ _ _ _ _ _ _ _ _ _ _ _ _ _ _ _ _ _ _ _ _ _ _ _ _ _ _ _ _ _ _ _ _ _ _ _ _ _ _ _ _ _ JX KX _ hJX hKX
      case rest =>
        obtain ⟨es, χ, m, ws, gw, hel, heq, _, hst⟩ := hcut.out
        have HEL := Lib.hid hel
        have HEQ := Lib.hid heq
        have HS := Lib.hid hst
        clear hel heq hst hcut
        go_wp2_with fail
        refine (peek_calls b bw bb ws 0 6 _ (HS.out.mem.at HS.out.hp) (by rw [HS.out.lw]; decide) (by decide) (by decide)).mono ?_; rintro e w1 ⟨g, c, he, hcell, _, hb⟩
        rw [HS.out.lw] at he hcell
        obtain rfl : e = .returned (.slice (some ⟨g, 0, none⟩) 6 c) := he
        have H1 := Lib.hid (HS.out.keep hb)
        have HCE : Hid (∀ i, i < 6 → w1.cell? ⟨g, i, none⟩ = some (.int .u64 (ws.getD i 0 : Nat))) := Lib.hid (fun i hi => by have h := hcell i (by show i < 6; exact hi); rw [Nat.zero_add] at h; exact h)
        obtain ⟨⟨cx, d0, d1, d2, d3, d4, d5, hx5⟩, _⟩ := H1.out.ref
        have HX5 := Lib.hid hx5
        have HB1 : Hid (Below w1.heap.size w1 w1) := Lib.hid (Below.refl _ _)
        clear hcell hb hx5
        go_wp2_with fail
        go_loopg [23] 6 (fun g i wr => ∃ k : Nat, k ≤ 6 ∧ g = 6 - k ∧ i = .int .i64 k ∧ Hid (Below w1.heap.size w1 wr))
        case atStart => exact ⟨0, by omega, rfl, rfl, HB1⟩
        case round =>
          obtain ⟨k, hk, rfl, rfl, HB⟩ := hrel
          by_cases hk6 : k < 6
          · have hst2 := H1.out.keep HB.out
            have f1 := kcell HB.out (HCE.out k hk6)
            have f2 : wr.cell? ⟨bx, 0, none⟩ = some (.slice (some ⟨gw, 0, none⟩) 6 cx) := by rw [← hst2.lx]; exact (hst2.hp.blk HX5.out).cell 0
            have f3 := (hst2.ref.at hst2.hp).word k (by rw [hst2.lx]; exact hk6)
            have HB2 := Lib.hid HB.out
            clear hst2
            generalize ws.getD k 0 = x at f1 f3
            have i1 : (k : Int) < 6 := by omega
            have i0 : (0 : Int) ≤ (k : Int) := Int.natCast_nonneg k
            go_wp2_with fail
            go_quiet (fail)
            have HB3 := Lib.hid (bseq HB2.out (below_of_chg ((Chg.refl (fun _ => False) wr).drewN nq)))
            clear f1 f2 f3
            go_wp2
            go_roundg (6 - (k + 1))
            case measure => omega
            case rel => exact ⟨k + 1, by omega, rfl, by go_num, HB3⟩
          · obtain rfl : k = 6 := by omega
            clear hk6
            go_wp2_with fail
            go_loopg [24] n' (fun g i wx => ∃ k : Nat, k ≤ n' ∧ g = n' - k ∧ i = .int .i64 k ∧ Hid (Below w1.heap.size w1 wx))
            case atStart => exact ⟨0, by omega, rfl, rfl, HB⟩
            case round =>
              clear HB
              obtain ⟨k, hk, rfl, rfl, HB⟩ := hrel
              by_cases hkn : k < n'
              · have hkl : k < es.length := by rw [HEL.out]; exact hkn
                obtain ⟨e, he⟩ : ∃ e, es[k]? = some e := ⟨_, List.getElem?_eq_getElem hkl⟩
                have hro := HEQ.out e (List.mem_of_getElem? he)
                obtain ⟨bo, o, r⟩ := e
                have hro : GRel o r := hro
                have hcode : o.pc < 6 → o.code = 0 := fun h => (hro.2.2.2.2 h).2.1
                obtain ⟨rk, rkk, rpc, rw', rv, rcode⟩ := r
                obtain ⟨e1, e2, e3, e4, _⟩ := hro
                dsimp only at e1 e2 e3 e4
                subst e1 e2 e3 e4
                have HE := Lib.hid he
                have hst2 := H1.out.keep HB.out
                have HS2 := Lib.hid hst2
                have hps : (es.map Ent.bo)[k]? = some bo := by rw [List.getElem?_map, he]; rfl
                obtain ⟨gx, capx, cur, hv, hm7, _, _, _, hc7⟩ := hst2.pos7 (by rw [List.length_map]; omega)
                have hgx := (slice_inj hv).1
                subst hgx
                have y0 : wr.cell? ⟨g7, k, none⟩ = some (.pointer (some ⟨bo, 0, none⟩)) := cell7 hst2.hp hm7 hc7 hps
                have hen := (hst2.ent k _ he).2.1
                have hno : o.pc ≤ 6 := hen.pc.1
                have HNO := Lib.hid hno
                have hres := gresult_calls bo 1 M 0 _ _ _ _ _ _ wr (hst2.at he).1
                have HRS := Lib.hid hres
                have i1 : (k : Int) < (n' : Int) := by omega
                have i0 : (0 : Int) ≤ (k : Int) := Int.natCast_nonneg k
                clear hst2 hv hm7 hc7 hps hres hno he hkl hen hcode
                by_cases hp6 : o.pc = 6
                · have hre := HRS.out
                  rw [if_pos hp6, if_pos hp6] at hre
                  have t3 : decide ((6 : Int) ≤ (o.pc : Int)) = true := by rw [hp6]; rfl
                  have t4 : decide ((o.pc : Int) < 6) = false := by rw [hp6]; rfl
                  have HREE := Lib.hid hre
                  clear hre hp6
                  go_wp2_with fail
                  refine HREE.out.mono ?_; rintro e w2 ⟨he, hb⟩
                  obtain rfl : e = .returned (.tuple #[.int .i64 (o.code : Nat), .int .u64 (o.v : Nat)]) := he
                  have hst3 := HS2.out.keep hb
                  have HB3 := Lib.hid (bseq HB.out hb)
                  obtain ⟨gy, capy, cur, hv, hm8, _, _, _, hc8⟩ := hst3.pos8 (by rw [HEL.out]; omega)
                  have hgy := (slice_inj hv).1
                  subst hgy
                  have c8 := cell8 hst3.hp hm8 hc8 HE.out
                  have f4 : w2.cell? ⟨g8, k * 8 + 4, none⟩ = some (.int .i64 o.pc) := c8 4 (by decide)
                  have f6 : w2.cell? ⟨g8, k * 8 + 6, none⟩ = some (.int .u64 o.v) := c8 6 (by decide)
                  have f8 : w2.cell? ⟨g8, k * 8 + 7, none⟩ = some (.int .i64 o.code) := c8 7 (by decide)
                  clear hst3 hv hm8 hc8 c8 hb
                  go_wp2
                  go_roundg (n' - (k + 1))
                  case measure => omega
                  case rel => exact ⟨k + 1, by omega, rfl, by go_num, HB3⟩
                · have hre := HRS.out
                  rw [if_neg hp6, if_neg hp6] at hre
                  have t3 : decide ((6 : Int) ≤ (o.pc : Int)) = false := by have := HNO.out; rw [decide_eq_false_iff_not]; omega
                  have t4 : decide ((o.pc : Int) < 6) = true := by have := HNO.out; rw [decide_eq_true_eq]; omega
                  have HREE := Lib.hid hre
                  clear hre hp6
                  go_wp2_with fail
                  refine HREE.out.mono ?_; rintro e w2 ⟨he, hb⟩
                  obtain rfl : e = .returned (.tuple #[.int .i64 0, .int .u64 0]) := he
                  have hst3 := HS2.out.keep hb
                  have HB3 := Lib.hid (bseq HB.out hb)
                  obtain ⟨gy, capy, cur, hv, hm8, _, _, _, hc8⟩ := hst3.pos8 (by rw [HEL.out]; omega)
                  have hgy := (slice_inj hv).1
                  subst hgy
                  have c8 := cell8 hst3.hp hm8 hc8 HE.out
                  have f4 : w2.cell? ⟨g8, k * 8 + 4, none⟩ = some (.int .i64 o.pc) := c8 4 (by decide)
                  have f6 : w2.cell? ⟨g8, k * 8 + 6, none⟩ = some (.int .u64 o.v) := c8 6 (by decide)
                  have f8 : w2.cell? ⟨g8, k * 8 + 7, none⟩ = some (.int .i64 o.code) := c8 7 (by decide)
                  clear hst3 hv hm8 hc8 c8 hb
                  go_wp2
                  go_roundg (n' - (k + 1))
                  case measure => omega
                  case rel => exact ⟨k + 1, by omega, rfl, by go_num, HB3⟩
              · obtain rfl : k = n' := by omega
                clear hkn
                go_wp2_with fail
                refine (gone_calls _).mono ?_; rintro e w9 ⟨rfl, hb⟩
                have HE := Lib.hid (bseq (bseq H1.out.hp.below HB.out) hb)
                clear hb
                go_wp2
                go_ret
                exact ⟨rfl, HE.out⟩
end Go.Proofs.Ytjmooohhndjmiaa
