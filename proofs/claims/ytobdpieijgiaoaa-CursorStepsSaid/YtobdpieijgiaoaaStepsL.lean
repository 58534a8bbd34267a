/- CursorSteps: its second loop. (Printed by genst.py.) -/
import Derived.Test.YtobdpieijgiaoaaStepsH
namespace Go.Proofs.Ytobdpieijgiaoaa
open Go.RowKit Go.Deep
set_option linter.unusedSimpArgs false
set_option linter.unusedVariables false
set_option maxHeartbeats 40000000 in
set_option maxRecDepth 100000 in
theorem loop2_walk (n : Int) (A : Option Addr) (len cap : Nat) (l : List (List Int)) (A' : Option Addr) (len' cap' : Nat) (l' : List (List Int)) (W WW : World) (hlen : len ≤ 9223372036854775807) (hlen' : len' ≤ 9223372036854775807) (HLR : Hid (RowsAt W [.i64, .i64] A len cap l)) (HLP : Hid (RowsAt W [.i64] A' len' cap' l')) (s : Nat) (HR : Hid (rightC ((0 : Nat) : Int) (s : Int) = true)) (hs8 : s ≤ 8 ∧ 1 ≤ s) (b bw bb gw gb bx ba : Nat) (g7 cap7 g8 cap8 n' : Nat) (hnn : 1 ≤ n' ∧ n' ≤ 10) (H0 : Hid (∃ (es : List Ent) (χ : Nat → Nat) (m : HMap) (ws : List Nat) (gw : Nat), es.length = n' ∧ (∀ e ∈ es, e.r = e.o) ∧ St W WW χ m W.heap.size s ba b bw bb bx gw gb (.slice (some ⟨g7, 0, none⟩) n' cap7) (.slice (some ⟨g8, 0, none⟩) n' cap8) ws ws (es.map Ent.bo) es)) (c15 c16 c17 c28 c29 c30 c31 c32 c33 c34 c35 c36 c37 c38 c39 c40 c41 c42 c43 c44 c45 c46 c47 c48 c49 c50 c51 c52 c53 c54 c55 c56 c57 c58 c59 c60 c61 c62 c63 c64 c65 c66 c67 c68 c69 c70 c71 c72 c73 c74 c75 c76 c77 c78 c79 c80 c81 c82 c83 c84 c85 c86 c87 c88 c89 c90 c91 c92 c93 c94 c95 c96 c97 c98 c99 c100 c101 c102 c103 c104 c105 c106 : Value) (J K' : Act → World → Prop) (F : Ending → World → Prop)
    (hJ : ∀ a' w', (∃ u6 u18 u19 u20 u21 u22 u107 u108 u109 u110 u111 u112 u113 u114 u115 u116 u117 u118 u119 u120 u121 u122 u123 u124 u125 u126 u127 u128 u129 u130 u131 u132 u133 u134 u135 u136 u137 u138 u139 u140 u141 u142 u143 u144 u145 u146 u147 u148 u149 u150 u151 u152 u153 u154 u155 u156 u157 u158 u159 u160 u161 u162 u163 u164 u165 u166 u167 u168 u169 u170 u171 u172 u173 u174 u175 u176 u177 u178 u179 u180 u181 u182 u183 u184 u185 u186 u187 u188 u189 u190 u191 u192 u193 u194 u195 u196 u197 u198 u199 u200 u201 u202 u203 : Value, (Hid (∃ (es : List Ent) (χ : Nat → Nat) (m : HMap) (ws : List Nat) (gw : Nat), es.length = n' ∧ (∀ e ∈ es, e.r = e.o) ∧ St W w' χ m W.heap.size s ba b bw bb bx gw gb (.slice (some ⟨g7, 0, none⟩) n' cap7) (.slice (some ⟨g8, 0, none⟩) n' cap8) ws ws (es.map Ent.bo) es)) ∧ a' = ⟨#[.int .i64 n, .slice A len cap, .slice A' len' cap', undef, undef, undef, u6, .pointer (some ⟨W.heap.size, 0, none⟩), .pointer (some ⟨b, 0, none⟩), .int .i64 0, .pointer (some ⟨bx, 0, none⟩), .int .i64 0, .slice (some ⟨ba, 0, none⟩) 3 3, .slice (some ⟨g7, 0, none⟩) n' cap7, .slice (some ⟨g8, 0, none⟩) n' cap8, c15, c16, c17, u18, u19, u20, u21, u22, undef, undef, undef, undef, undef, c28, c29, c30, c31, c32, c33, c34, c35, c36, c37, c38, c39, c40, c41, c42, c43, c44, c45, c46, c47, c48, c49, c50, c51, c52, c53, c54, c55, c56, c57, c58, c59, c60, c61, c62, c63, c64, c65, c66, c67, c68, c69, c70, c71, c72, c73, c74, c75, c76, c77, c78, c79, c80, c81, c82, c83, c84, c85, c86, c87, c88, c89, c90, c91, c92, c93, c94, c95, c96, c97, c98, c99, c100, c101, c102, c103, c104, c105, c106, u107, u108, u109, u110, u111, u112, u113, u114, u115, u116, u117, u118, u119, u120, u121, u122, u123, u124, u125, u126, u127, u128, u129, u130, u131, u132, u133, u134, u135, u136, u137, u138, u139, u140, u141, u142, u143, u144, u145, u146, u147, u148, u149, u150, u151, u152, u153, u154, u155, u156, u157, u158, u159, u160, u161, u162, u163, u164, u165, u166, u167, u168, u169, u170, u171, u172, u173, u174, u175, u176, u177, u178, u179, u180, u181, u182, u183, u184, u185, u186, u187, u188, u189, u190, u191, u192, u193, u194, u195, u196, u197, u198, u199, u200, u201, u202, u203, undef, undef, undef, undef, undef, undef, undef, undef, undef, undef, undef, undef, undef, undef, undef, undef, undef, undef, undef, undef, undef, undef, undef, undef, undef, undef, undef, undef, undef, undef, undef, undef, undef, undef, undef, undef, undef, undef, undef, undef, undef, undef, undef, undef, undef, undef, undef, undef, undef, undef, undef, undef, undef, undef, undef, undef, undef, undef, undef, undef, undef, undef, undef, undef, undef, undef, undef, undef, undef, undef, undef, undef, undef, undef, undef, undef, undef, undef], []⟩) → J a' w') (hK : ∀ a' w', Met J a' w' → K' a' w') :
    Code.wp Try.prog blk2 (Exit.then K' (bodyPost Try.prog Try.f6 F)) ⟨#[.int .i64 n, .slice A len cap, .slice A' len' cap', undef, undef, undef, .bool false, .pointer (some ⟨W.heap.size, 0, none⟩), .pointer (some ⟨b, 0, none⟩), .int .i64 0, .pointer (some ⟨bx, 0, none⟩), .int .i64 0, .slice (some ⟨ba, 0, none⟩) 3 3, .slice (some ⟨g7, 0, none⟩) n' cap7, .slice (some ⟨g8, 0, none⟩) n' cap8, c15, c16, c17, .int .i64 0, undef, undef, undef, undef, undef, undef, undef, undef, undef, c28, c29, c30, c31, c32, c33, c34, c35, c36, c37, c38, c39, c40, c41, c42, c43, c44, c45, c46, c47, c48, c49, c50, c51, c52, c53, c54, c55, c56, c57, c58, c59, c60, c61, c62, c63, c64, c65, c66, c67, c68, c69, c70, c71, c72, c73, c74, c75, c76, c77, c78, c79, c80, c81, c82, c83, c84, c85, c86, c87, c88, c89, c90, c91, c92, c93, c94, c95, c96, c97, c98, c99, c100, c101, c102, c103, c104, c105, c106, undef, undef, undef, undef, undef, undef, undef, undef, undef, undef, undef, undef, undef, undef, undef, undef, undef, undef, undef, undef, undef, undef, undef, undef, undef, undef, undef, undef, undef, undef, undef, undef, undef, undef, undef, undef, undef, undef, undef, undef, undef, undef, undef, undef, undef, undef, undef, undef, undef, undef, undef, undef, undef, undef, undef, undef, undef, undef, undef, undef, undef, undef, undef, undef, undef, undef, undef, undef, undef, undef, undef, undef, undef, undef, undef, undef, undef, undef, undef, undef, undef, undef, undef, undef, undef, undef, undef, undef, undef, undef, undef, undef, undef, undef, undef, undef, undef, undef, undef, undef, undef, undef, undef, undef, undef, undef, undef, undef, undef, undef, undef, undef, undef, undef, undef, undef, undef, undef, undef, undef, undef, undef, undef, undef, undef, undef, undef, undef, undef, undef, undef, undef, undef, undef, undef, undef, undef, undef, undef, undef, undef, undef, undef, undef, undef, undef, undef, undef, undef, undef, undef, undef, undef, undef, undef, undef, undef, undef, undef, undef, undef, undef, undef, undef, undef, undef, undef, undef, undef, undef, undef, undef, undef, undef, undef], []⟩ WW := by
  conv => arg 2; whnf
  let Q' := bodyPost Try.prog Try.f6 F
  change Code.wp _ _ (Exit.then K' Q') _ _
  go_wp2_with fail
  go_loopg [18] 200 (fun g i wr => ∃ (k : Nat), k ≤ len' ∧ k ≤ 200 ∧ g = 200 - k ∧ i = .int .i64 k ∧ Hid (∃ (es : List Ent) (χ : Nat → Nat) (m : HMap) (ws : List Nat) (gw : Nat), es.length = n' ∧ (∀ e ∈ es, e.r = e.o) ∧ St W wr χ m W.heap.size s ba b bw bb bx gw gb (.slice (some ⟨g7, 0, none⟩) n' cap7) (.slice (some ⟨g8, 0, none⟩) n' cap8) ws ws (es.map Ent.bo) es))
  case atStart => exact ⟨0, by omega, by omega, rfl, rfl, H0⟩
  case round =>
    clear H0
    obtain ⟨k, hk, hk2, rfl, rfl, HI⟩ := hrel
    have tn : decide (0 < n') = true := by simp; omega
    by_cases hlt : k < len'
    · by_cases h200 : k < 200
      · have t200 : decide ((k : Int) < 200) = true := by simp; omega
        obtain ⟨es, χ, m, ws, gw, hel, heq, hst⟩ := HI.out
        obtain ⟨ba', off', z, rfl, hz0⟩ := num_cell HLP.out hlt
        have HZ := Lib.hid hz0
        have hz := kcell hst.hp.below hz0
        clear hz0
        obtain ⟨r, hr⟩ : ∃ r : Nat, z % 16 = r := ⟨(z % 16).toNat, by omega⟩
        have hand : bits .and .i64 z 15 = (r : Int) := by rw [and15, hr]
        have HEL := Lib.hid hel
        have HEQ := Lib.hid heq
        have HS := Lib.hid hst
        by_cases hr15 : r = 15
        · obtain ⟨q, hq⟩ : ∃ q : Nat, (z / 16) % 4 = q := ⟨((z / 16) % 4).toNat, by omega⟩
          have hand2 : bits .and .i64 (z / 16) 3 = (q : Int) := by rw [and3, hq]
          obtain ⟨v, hv⟩ : ∃ v : Nat, (z / 64) % 16 = v := ⟨((z / 64) % 16).toNat, by omega⟩
          have hand3 : bits .and .i64 (z / 64) 15 = (v : Int) := by rw [and15, hv]
          have hv16 : v < 16 := by omega
          have ev : IntKind.u64.wrap (v : Int) = (v : Int) := wrap_small v (by omega)
          obtain ⟨kk, hkk⟩ : ∃ kk, 1 + q % 3 = kk := ⟨_, rfl⟩
          have hk4 : 1 ≤ kk ∧ kk < 4 := by omega
          have HKK : Hid ((1 : Int) + (q : Int) % 3 = (kk : Int)) := Lib.hid (by rw [← hkk]; simp)
          have tr : ((r : Int) == 15) = true := by rw [hr15]; rfl
          have HV := Lib.hid (And.intro hv16 hk4)
          clear hr hq hv hkk hel heq hst hr15 hv16
          go_wp2_with fail
          rw [HKK.out]
          refine (store_calls b bw bb ws kk v wr (HS.out.mem.at HS.out.hp) (by rw [HS.out.lw]; exact HV.out.2.2) (by have := HV.out.1; omega)).mono ?_; rintro e w3 ⟨rfl, hm3, hc3⟩
          obtain ⟨m3, hst3⟩ := HS.out.store hc3 hm3 (by rw [List.length_set])
          obtain ⟨m4, hst4⟩ := hst3.refset kk v HV.out.2.2 (by have := HV.out.1; omega)
          obtain ⟨⟨cx, d0, d1, d2, d3, d4, d5, hx5⟩, ⟨rr, hx6⟩, _⟩ := hst3.ref
          have y0 : w3.cell? ⟨bx, 0, none⟩ = some (.slice (some ⟨gw, 0, none⟩) 4 cx) := by rw [← hst3.lx]; exact (hst3.hp.blk hx5).cell 0
          have hz3 := kcell hst3.hp.below HZ.out
          have hkl : kk < (wordVals ws).length := by have := HS.out.lw; have := HV.out.2.2; simp [wordVals]; omega
          obtain ⟨u0, y1⟩ : ∃ u, w3.cell? ⟨gw, kk, none⟩ = some u := ⟨_, by rw [(hst3.hp.blk hx6).cell, List.getElem?_append_left hkl, List.getElem?_eq_getElem hkl]⟩
          have z1 : w3.frozen? ⟨gw, kk, none⟩ = false := (hst3.hp.blk hx6).free _
          have HFIN : Hid (∃ (es : List Ent) (χ : Nat → Nat) (m : HMap) (ws : List Nat) (gw' : Nat), es.length = n' ∧ (∀ e ∈ es, e.r = e.o) ∧ St W (w3.setCell ⟨gw, kk, none⟩ (.int .u64 (v : Nat))).drew χ m W.heap.size s ba b bw bb bx gw' gb (.slice (some ⟨g7, 0, none⟩) n' cap7) (.slice (some ⟨g8, 0, none⟩) n' cap8) ws ws (es.map Ent.bo) es) := Lib.hid ⟨es, χ, m4, ws.set kk v, gw, HEL.out, HEQ.out, hst4.drew⟩
          have j1 : (kk : Int) < 4 := by have := HV.out.2.2; omega
          have j0 : (0 : Int) ≤ (kk : Int) := Int.natCast_nonneg kk
          clear hm3 hc3 hst3 hst4 hx5 hx6 hkl hz
          go_upto_region 26 with fail
          go_still_tail 11, (by as_aux_lemma => kernel_rfl)
          change wpList _ _ _ _ _ w3.drew
          go_wp2
          go_roundg (200 - (k + 1))
          case measure => omega
          case rel => exact ⟨k + 1, by omega, by omega, rfl, by go_num, HFIN⟩
        · have tr : ((r : Int) == 15) = false := by rw [beq_eq_false_iff_ne]; omega
          clear hr hel heq hst hr15
          obtain ⟨t, htt, htl⟩ := pick_of z n' hnn.1 hnn.2
          have HT := Lib.hid htt
          clear htt
          go_upto_region 28 with fail
          rw [HT.out]
          clear hz
          have htl' : t < es.length := by rw [HEL.out]; exact htl
          obtain ⟨e, he⟩ : ∃ e, es[t]? = some e := ⟨_, List.getElem?_eq_getElem htl'⟩
          have hro := HEQ.out e (List.mem_of_getElem? he)
          obtain ⟨bo, bwd, o0, o, bq, cq⟩ := e
          have hro : o = o0 := hro
          subst hro
          have HE := Lib.hid he
          obtain ⟨_, _, ⟨rq, hq22⟩, hno, hco, hoa, hos⟩ := HS.out.ent t _ he
          have hlw := HS.out.lw
          obtain ⟨⟨cx, d0, d1, d2, d3, d4, d5, hx5⟩, _, hx9, _, _, hwf⟩ := HS.out.ref
          have HX5 := Lib.hid hx5
          have GBN : Hid (χ gb ≠ 0) := Lib.hid (by have h := (HS.out.hp.has _ _ _ _ hx9).2.1; omega)
          have HNO : Hid (NOk o ws.length) := Lib.hid (by rw [hlw]; exact hno)
          have HCO := Lib.hid hco
          have HAS := Lib.hid (And.intro hoa hos)
          have HWQ : Hid (∀ W', St W W' χ m W.heap.size s ba b bw bb bx gw gb (.slice (some ⟨g7, 0, none⟩) n' cap7) (.slice (some ⟨g8, 0, none⟩) n' cap8) ws ws (es.map Ent.bo) es → 0 < o.words.length → ∃ bq' oq, some (⟨bq, 0, none⟩ : Addr) = some ⟨bq', oq, none⟩ ∧ ∀ j, j < o.words.length → W'.cell? ⟨bq', oq + j, none⟩ = some (.int .i64 (o.words.getD j 0 : Nat))) := Lib.hid (fun W' h _ => ⟨bq, 0, rfl, fun j hj => by
            rw [Nat.zero_add, (h.hp.blk hq22).cell, List.getElem?_append_left (by simpa [intVals] using hj)]
            simp [intVals, List.getD, hj]⟩)
          have hok2 := stepN_ok HNO.out hwf hco
          obtain ⟨o2, ho2⟩ : ∃ x, (stepN o ws).1 = x := ⟨_, rfl⟩
          obtain ⟨ws2, hws2⟩ : ∃ x, (stepN o ws).2 = x := ⟨_, rfl⟩
          rw [ho2, hws2] at hok2
          have HOK2 := Lib.hid hok2
          have HO2 := Lib.hid (And.intro ho2 hws2)
          have i1 : (t : Int) < (n' : Int) := by omega
          have i0 : (0 : Int) ≤ (t : Int) := Int.natCast_nonneg t
          clear he hq22 hno hco hoa hos hlw hx5 hx9 hwf hok2 ho2 hws2 htl'
          go_cut [21, 22] (fun v21 v22 wx => ∃ (p q gg cg : Nat) (e0 e1 e2 e3 e4 e5 : Int), v21 = .pointer (some ⟨p, 0, none⟩) ∧ v22 = .pointer (some ⟨q, 0, none⟩) ∧ Hid (Blk wx p 62 [.int .i64 o2.a, .int .i64 o2.s, .int .i64 o2.m, .slice (some ⟨bq, 0, none⟩) o.words.length cq, .int .i64 o2.pc, .int .i64 o2.k, .int .u64 o2.p, .int .u64 o2.g, .int .i64 o2.code] ∧ Blk wx q 56 [.slice (some ⟨gg, 0, none⟩) ws2.length cg, .slice (some ⟨gb, 0, none⟩) ws2.length ws2.length, .int .i64 e0, .int .i64 e1, .int .i64 e2, .int .i64 e3, .int .i64 e4, .int .i64 e5, .int .i64 (-1), .bool false] ∧ RefAt wx gg gb ws2 ∧ (gg = gw ∨ (χ gg = 0 ∧ W.heap.size ≤ gg)) ∧ χ p = 0 ∧ χ q = 0 ∧ W.heap.size ≤ p ∧ W.heap.size ≤ q ∧ p ≠ q ∧ gg ≠ p ∧ gg ≠ q ∧ St W wx χ m W.heap.size s ba b bw bb bx gw gb (.slice (some ⟨g7, 0, none⟩) n' cap7) (.slice (some ⟨g8, 0, none⟩) n' cap8) ws ws (es.map Ent.bo) es))
          case first =>
            refine wp_region_held_drew (S := (fun w' => w'.cell? ⟨g8, t * 9, none⟩ = some (.int .i64 o.a) ∧ w'.cell? ⟨g8, t * 9 + 1, none⟩ = some (.int .i64 o.s) ∧ w'.cell? ⟨g8, t * 9 + 2, none⟩ = some (.int .i64 o.m) ∧ w'.cell? ⟨g8, t * 9 + 3, none⟩ = some (.slice (some ⟨bq, 0, none⟩) o.words.length cq) ∧ w'.cell? ⟨g8, t * 9 + 4, none⟩ = some (.int .i64 o.pc) ∧ w'.cell? ⟨g8, t * 9 + 5, none⟩ = some (.int .i64 o.k) ∧ w'.cell? ⟨g8, t * 9 + 6, none⟩ = some (.int .u64 o.p) ∧ w'.cell? ⟨g8, t * 9 + 7, none⟩ = some (.int .u64 o.g) ∧ w'.cell? ⟨g8, t * 9 + 8, none⟩ = some (.int .i64 o.code) ∧ w'.cell? ⟨bx, 0, none⟩ = some (.slice (some ⟨gw, 0, none⟩) ws.length cx) ∧ w'.cell? ⟨bx, 1, none⟩ = some (.slice (some ⟨gb, 0, none⟩) ws.length ws.length) ∧ w'.cell? ⟨bx, 2, none⟩ = some (.int .i64 d0) ∧ w'.cell? ⟨bx, 3, none⟩ = some (.int .i64 d1) ∧ w'.cell? ⟨bx, 4, none⟩ = some (.int .i64 d2) ∧ w'.cell? ⟨bx, 5, none⟩ = some (.int .i64 d3) ∧ w'.cell? ⟨bx, 6, none⟩ = some (.int .i64 d4) ∧ w'.cell? ⟨bx, 7, none⟩ = some (.int .i64 d5) ∧ w'.cell? ⟨bx, 8, none⟩ = some (.int .i64 (-1)) ∧ w'.cell? ⟨bx, 9, none⟩ = some (.bool false))) (by as_aux_lemma => kernel_rfl) (cells28 HS.out.drew HE.out HX5.out) (fun hH0 => ?_)
            refine take_first 0 (some 171) ?_ rfl rfl (by as_aux_lemma => kernel_rfl) (by as_aux_lemma => kernel_rfl) (by as_aux_lemma => kernel_rfl) (fun _ _ _ h => h) rfl ?hy hH0 ?_
            case hy => (intro w0 hS0; (try dsimp only at hS0); (try go_simp); try with_reducible rfl)
            try simp only [Act.put, List.setIfInBounds_toArray, List.set_cons_zero, List.set_cons_succ]
            refine take_first 1 (some 172) ?_ rfl rfl (by as_aux_lemma => kernel_rfl) (by as_aux_lemma => kernel_rfl) (by as_aux_lemma => kernel_rfl) (fun _ _ _ h => h) rfl ?hy hH0 ?_
            case hy => (intro w0 hS0; (try dsimp only at hS0); (try go_simp); try with_reducible rfl)
            try simp only [Act.put, List.setIfInBounds_toArray, List.set_cons_zero, List.set_cons_succ]
            refine take_first 2 (some 173) ?_ rfl rfl (by as_aux_lemma => kernel_rfl) (by as_aux_lemma => kernel_rfl) (by as_aux_lemma => kernel_rfl) (fun _ _ _ h => h) rfl ?hy hH0 ?_
            case hy => (intro w0 hS0; (try dsimp only at hS0); (try go_simp); try with_reducible rfl)
            try simp only [Act.put, List.setIfInBounds_toArray, List.set_cons_zero, List.set_cons_succ]
            refine take_first 3 (some 174) ?_ rfl rfl (by as_aux_lemma => kernel_rfl) (by as_aux_lemma => kernel_rfl) (by as_aux_lemma => kernel_rfl) (fun _ _ _ h => h) rfl ?hy hH0 ?_
            case hy => (intro w0 hS0; (try dsimp only at hS0); (try go_simp); try with_reducible rfl)
            try simp only [Act.put, List.setIfInBounds_toArray, List.set_cons_zero, List.set_cons_succ]
            refine take_first 4 (some 175) ?_ rfl rfl (by as_aux_lemma => kernel_rfl) (by as_aux_lemma => kernel_rfl) (by as_aux_lemma => kernel_rfl) (fun _ _ _ h => h) rfl ?hy hH0 ?_
            case hy => (intro w0 hS0; (try dsimp only at hS0); (try go_simp); try with_reducible rfl)
            try simp only [Act.put, List.setIfInBounds_toArray, List.set_cons_zero, List.set_cons_succ]
            clear hH0
            refine wpAnyH_ready (rs := [5, 9, 10]) (by as_aux_lemma => kernel_rfl) (by simp) (AllReadyH.cons rfl (fun K hK => ?_) (AllReadyH.cons rfl (fun K hK => ?_) (AllReadyH.cons rfl (fun K hK => ?_) (AllReadyH.nil))))
            · go_simp
              have HSC := (Lib.hid HS.out.drew)
              refine (refop_calls gw cx gb d0 d1 d2 d3 d4 d5 ws o (some ⟨bq, 0, none⟩) o.words.length cq _ (HSC.out.ref.at HSC.out.hp) HNO.out rfl HCO.out (HWQ.out _ HSC.out)).mono ?_; rintro e w1 hto
              rw [HO2.out.1, HO2.out.2] at hto
              obtain ⟨gg, cg, e0, e1, e2, e3, e4, e5, he, hr1, hg1, hb1⟩ := hto
              obtain rfl : e = .returned (.tuple #[.agg #[.int .i64 o2.a, .int .i64 o2.s, .int .i64 o2.m, .slice (some ⟨bq, 0, none⟩) o.words.length cq, .int .i64 o2.pc, .int .i64 o2.k, .int .u64 o2.p, .int .u64 o2.g, .int .i64 o2.code], .agg #[.slice (some ⟨gg, 0, none⟩) ws2.length cg, .slice (some ⟨gb, 0, none⟩) ws2.length ws2.length, .int .i64 e0, .int .i64 e1, .int .i64 e2, .int .i64 e3, .int .i64 e4, .int .i64 e5, .int .i64 (-1), .bool false]]) := he
              have HC1 := Lib.hid (And.intro hr1 (And.intro (show gg = gw ∨ (χ gg = 0 ∧ W.heap.size ≤ gg) from hg1.imp id (fun h => ⟨HSC.out.hp.fresh h, by have := HSC.out.hp.below.size; omega⟩)) hb1))
              clear hr1 hg1 hb1
              have HSN := Lib.hid (HSC.out.keep HC1.out.2.2)
              refine hK.out _ _ (cells28 HSN.out HE.out HX5.out) (fun hH => ?_)
              clear hK hH
              try simp only [Act.put, List.setIfInBounds_toArray, List.set_cons_zero, List.set_cons_succ]
              refine take_first 6 (some 170) ?_ rfl rfl (by as_aux_lemma => kernel_rfl) (by as_aux_lemma => kernel_rfl) (by as_aux_lemma => kernel_rfl) (fun _ _ _ h => h) rfl ?hy (cells28 HSN.out HE.out HX5.out) ?_
              case hy => (intro w0 hS0; (try dsimp only at hS0); (try go_simp); try with_reducible rfl)
              try simp only [Act.put, List.setIfInBounds_toArray, List.set_cons_zero, List.set_cons_succ]
              refine take_first 7 (some 177) ?_ rfl rfl (by as_aux_lemma => kernel_rfl) (by as_aux_lemma => kernel_rfl) (by as_aux_lemma => kernel_rfl) (fun _ _ _ h => h) rfl ?hy (cells28 HSN.out HE.out HX5.out) ?_
              case hy => (intro w0 hS0; (try dsimp only at hS0); (try go_simp); try with_reducible rfl)
              try simp only [Act.put, List.setIfInBounds_toArray, List.set_cons_zero, List.set_cons_succ]
              refine take_first 8 (some 178) ?_ rfl rfl (by as_aux_lemma => kernel_rfl) (by as_aux_lemma => kernel_rfl) (by as_aux_lemma => kernel_rfl) (fun _ _ _ h => h) rfl ?hy (cells28 HSN.out HE.out HX5.out) ?_
              case hy => (intro w0 hS0; (try dsimp only at hS0); (try go_simp); try with_reducible rfl)
              try simp only [Act.put, List.setIfInBounds_toArray, List.set_cons_zero, List.set_cons_succ]
              refine wpAnyH_ready (rs := [9, 10]) (by as_aux_lemma => kernel_rfl) (by simp) (AllReadyH.cons rfl (fun K hK => ?_) (AllReadyH.cons rfl (fun K hK => ?_) (AllReadyH.nil)))
              · go_simp
                have HSN := Lib.hid (HSN.out.alloc (Obj.cells #[.int .i64 0, .int .i64 0, .int .i64 0, .slice none 0 0, .int .i64 0, .int .i64 0, .int .u64 0, .int .u64 0, .int .i64 0] 62))
                refine hK.out _ _ (cells28 HSN.out HE.out HX5.out) (fun hH => ?_)
                clear hK hH
                try simp only [Act.put, List.setIfInBounds_toArray, List.set_cons_zero, List.set_cons_succ]
                refine wpAnyH_ready (rs := [10]) (by as_aux_lemma => kernel_rfl) (by simp) (AllReadyH.cons rfl (fun K hK => ?_) (AllReadyH.nil))
                go_simp
                have HSN := Lib.hid (HSN.out.alloc (Obj.cells #[.slice none 0 0, .slice none 0 0, .int .i64 0, .int .i64 0, .int .i64 0, .int .i64 0, .int .i64 0, .int .i64 0, .int .i64 0, .bool false] 56))
                refine hK.out _ _ (cells28 HSN.out HE.out HX5.out) (fun hH => ?_)
                clear hK hH
                try simp only [Act.put, List.setIfInBounds_toArray, List.set_cons_zero, List.set_cons_succ]
                have bp : Blk ((w1.alloc (Obj.cells #[.int .i64 0, .int .i64 0, .int .i64 0, .slice none 0 0, .int .i64 0, .int .i64 0, .int .u64 0, .int .u64 0, .int .i64 0] 62)).alloc (Obj.cells #[.slice none 0 0, .slice none 0 0, .int .i64 0, .int .i64 0, .int .i64 0, .int .i64 0, .int .i64 0, .int .i64 0, .int .i64 0, .bool false] 56)) (w1.heap.size) 62 [.int .i64 0, .int .i64 0, .int .i64 0, .slice none 0 0, .int .i64 0, .int .i64 0, .int .u64 0, .int .u64 0, .int .i64 0] := (Blk.alloc (by have h := blk_new w1 62 #[.int .i64 0, .int .i64 0, .int .i64 0, .slice none 0 0, .int .i64 0, .int .i64 0, .int .u64 0, .int .u64 0, .int .i64 0] _ rfl; (try simp only [World.size_alloc] at h); exact h) (Obj.cells #[.slice none 0 0, .slice none 0 0, .int .i64 0, .int .i64 0, .int .i64 0, .int .i64 0, .int .i64 0, .int .i64 0, .int .i64 0, .bool false] 56))
                have bqq : Blk ((w1.alloc (Obj.cells #[.int .i64 0, .int .i64 0, .int .i64 0, .slice none 0 0, .int .i64 0, .int .i64 0, .int .u64 0, .int .u64 0, .int .i64 0] 62)).alloc (Obj.cells #[.slice none 0 0, .slice none 0 0, .int .i64 0, .int .i64 0, .int .i64 0, .int .i64 0, .int .i64 0, .int .i64 0, .int .i64 0, .bool false] 56)) (w1.heap.size + 1) 56 [.slice none 0 0, .slice none 0 0, .int .i64 0, .int .i64 0, .int .i64 0, .int .i64 0, .int .i64 0, .int .i64 0, .int .i64 0, .bool false] := (by have h := blk_new (w1.alloc (Obj.cells #[.int .i64 0, .int .i64 0, .int .i64 0, .slice none 0 0, .int .i64 0, .int .i64 0, .int .u64 0, .int .u64 0, .int .i64 0] 62)) 56 #[.slice none 0 0, .slice none 0 0, .int .i64 0, .int .i64 0, .int .i64 0, .int .i64 0, .int .i64 0, .int .i64 0, .int .i64 0, .bool false] _ rfl; (try simp only [World.size_alloc] at h); exact h)
                have hrl : RefAt ((w1.alloc (Obj.cells #[.int .i64 0, .int .i64 0, .int .i64 0, .slice none 0 0, .int .i64 0, .int .i64 0, .int .u64 0, .int .u64 0, .int .i64 0] 62)).alloc (Obj.cells #[.slice none 0 0, .slice none 0 0, .int .i64 0, .int .i64 0, .int .i64 0, .int .i64 0, .int .i64 0, .int .i64 0, .int .i64 0, .bool false] 56)) gg gb ws2 := HC1.out.1.below (bnew (bnew (Below.refl _ _) (Obj.cells #[.int .i64 0, .int .i64 0, .int .i64 0, .slice none 0 0, .int .i64 0, .int .i64 0, .int .u64 0, .int .u64 0, .int .i64 0] 62)) (Obj.cells #[.slice none 0 0, .slice none 0 0, .int .i64 0, .int .i64 0, .int .i64 0, .int .i64 0, .int .i64 0, .int .i64 0, .int .i64 0, .bool false] 56))
                have hsl : St W ((w1.alloc (Obj.cells #[.int .i64 0, .int .i64 0, .int .i64 0, .slice none 0 0, .int .i64 0, .int .i64 0, .int .u64 0, .int .u64 0, .int .i64 0] 62)).alloc (Obj.cells #[.slice none 0 0, .slice none 0 0, .int .i64 0, .int .i64 0, .int .i64 0, .int .i64 0, .int .i64 0, .int .i64 0, .int .i64 0, .bool false] 56)) χ m W.heap.size s ba b bw bb bx gw gb (.slice (some ⟨g7, 0, none⟩) n' cap7) (.slice (some ⟨g8, 0, none⟩) n' cap8) ws ws (es.map Ent.bo) es := HSN.out
                have hwz : wr.heap.size ≤ w1.heap.size := by have h : wr.heap.size ≤ w1.heap.size := HC1.out.2.2.size; exact h
                have hfp : χ (w1.heap.size) = 0 := HS.out.hp.fresh (by omega)
                have hfq : χ (w1.heap.size + 1) = 0 := HS.out.hp.fresh (by omega)
                have hgp : W.heap.size ≤ w1.heap.size := by have := HS.out.hp.below.size; omega
                have hgq : W.heap.size ≤ w1.heap.size + 1 := by have := HS.out.hp.below.size; omega
                have hpq : w1.heap.size ≠ w1.heap.size + 1 := by omega
                have hgl : gg < w1.heap.size := by obtain ⟨_, hgb⟩ := HC1.out.1.words; exact hgb.lt
                have hgs : gg = gw ∨ (χ gg = 0 ∧ W.heap.size ≤ gg) := HC1.out.2.1
                have hgp' : gg ≠ w1.heap.size := by omega
                have hgq' : gg ≠ w1.heap.size + 1 := by omega
                generalize w1.heap.size + 1 = q at bp bqq hfp hfq hgp hgq hpq hgp' hgq' ⊢
                generalize w1.heap.size = p at bp bqq hfp hfq hgp hgq hpq hgp' hgq' ⊢
                generalize ((w1.alloc (Obj.cells #[.int .i64 0, .int .i64 0, .int .i64 0, .slice none 0 0, .int .i64 0, .int .i64 0, .int .u64 0, .int .u64 0, .int .i64 0] 62)).alloc (Obj.cells #[.slice none 0 0, .slice none 0 0, .int .i64 0, .int .i64 0, .int .i64 0, .int .i64 0, .int .i64 0, .int .i64 0, .int .i64 0, .bool false] 56)) = wl at bp bqq hrl hsl ⊢
                have hgbp : gb ≠ p ∧ gb ≠ q := ⟨fun e => by subst e; exact GBN.out hfp, fun e => by subst e; exact GBN.out hfq⟩
                have HL := Lib.hid (And.intro bp (And.intro bqq (And.intro hrl (And.intro hsl (And.intro hgs (And.intro hfp (And.intro hfq (And.intro hgp (And.intro hgq (And.intro hpq (And.intro hgp' (And.intro hgq' hgbp))))))))))))
                have y0 : wl.cell? ⟨p, 0, none⟩ = some (.int .i64 0) := bp.cell 0
                have z0 := bp.free 0
                have y1 : wl.cell? ⟨p, 1, none⟩ = some (.int .i64 0) := bp.cell 1
                have z1 := bp.free 1
                have y2 : wl.cell? ⟨p, 2, none⟩ = some (.int .i64 0) := bp.cell 2
                have z2 := bp.free 2
                have y3 : wl.cell? ⟨p, 3, none⟩ = some (.slice none 0 0) := bp.cell 3
                have z3 := bp.free 3
                have y4 : wl.cell? ⟨p, 4, none⟩ = some (.int .i64 0) := bp.cell 4
                have z4 := bp.free 4
                have y5 : wl.cell? ⟨p, 5, none⟩ = some (.int .i64 0) := bp.cell 5
                have z5 := bp.free 5
                have y6 : wl.cell? ⟨p, 6, none⟩ = some (.int .u64 0) := bp.cell 6
                have z6 := bp.free 6
                have y7 : wl.cell? ⟨p, 7, none⟩ = some (.int .u64 0) := bp.cell 7
                have z7 := bp.free 7
                have y8 : wl.cell? ⟨p, 8, none⟩ = some (.int .i64 0) := bp.cell 8
                have z8 := bp.free 8
                clear bp bqq hrl hsl hgs hfp hfq hgp hgq hpq hgp' hgq' hgbp hgl hwz
                refine wpAnyH_ready (rs := [11]) (by as_aux_lemma => kernel_rfl) (by simp) (AllReadyH.cons rfl (fun K hK => ?_) AllReadyH.nil)
                go_simp
                clear y0 z0 y1 z1 y2 z2 y3 z3 y4 z4 y5 z5 y6 z6 y7 z7 y8 z8
                obtain ⟨bp, hcp⟩ := set9 HL.out.1 (.int .i64 o2.a) (.int .i64 o2.s) (.int .i64 o2.m) (.slice (some ⟨bq, 0, none⟩) o.words.length cq) (.int .i64 o2.pc) (.int .i64 o2.k) (.int .u64 o2.p) (.int .u64 o2.g) (.int .i64 o2.code)
                have bqq := HL.out.2.1.chg hcp (fun e => HL.out.2.2.2.2.2.2.2.2.2.1 e.symm)
                have hrl := HL.out.2.2.1.chg hcp (fun e => HL.out.2.2.2.2.2.2.2.2.2.2.1 e) (fun e => HL.out.2.2.2.2.2.2.2.2.2.2.2.2.1 e)
                have hsl := HL.out.2.2.2.1.free HL.out.2.2.2.2.2.1 HL.out.2.2.2.2.2.2.2.1 hcp
                generalize (((((((((wl.setCell ⟨p, 0, none⟩ (.int .i64 o2.a)).setCell ⟨p, 1, none⟩ (.int .i64 o2.s)).setCell ⟨p, 2, none⟩ (.int .i64 o2.m)).setCell ⟨p, 3, none⟩ (.slice (some ⟨bq, 0, none⟩) o.words.length cq)).setCell ⟨p, 4, none⟩ (.int .i64 o2.pc)).setCell ⟨p, 5, none⟩ (.int .i64 o2.k)).setCell ⟨p, 6, none⟩ (.int .u64 o2.p)).setCell ⟨p, 7, none⟩ (.int .u64 o2.g)).setCell ⟨p, 8, none⟩ (.int .i64 o2.code)) = wm at bp hcp bqq hrl hsl ⊢
                have HM := Lib.hid (And.intro bp (And.intro bqq (And.intro hrl hsl)))
                have y0 : wm.cell? ⟨q, 0, none⟩ = some (.slice none 0 0) := bqq.cell 0
                have z0 := bqq.free 0
                have y1 : wm.cell? ⟨q, 1, none⟩ = some (.slice none 0 0) := bqq.cell 1
                have z1 := bqq.free 1
                have y2 : wm.cell? ⟨q, 2, none⟩ = some (.int .i64 0) := bqq.cell 2
                have z2 := bqq.free 2
                have y3 : wm.cell? ⟨q, 3, none⟩ = some (.int .i64 0) := bqq.cell 3
                have z3 := bqq.free 3
                have y4 : wm.cell? ⟨q, 4, none⟩ = some (.int .i64 0) := bqq.cell 4
                have z4 := bqq.free 4
                have y5 : wm.cell? ⟨q, 5, none⟩ = some (.int .i64 0) := bqq.cell 5
                have z5 := bqq.free 5
                have y6 : wm.cell? ⟨q, 6, none⟩ = some (.int .i64 0) := bqq.cell 6
                have z6 := bqq.free 6
                have y7 : wm.cell? ⟨q, 7, none⟩ = some (.int .i64 0) := bqq.cell 7
                have z7 := bqq.free 7
                have y8 : wm.cell? ⟨q, 8, none⟩ = some (.int .i64 0) := bqq.cell 8
                have z8 := bqq.free 8
                have y9 : wm.cell? ⟨q, 9, none⟩ = some (.bool false) := bqq.cell 9
                have z9 := bqq.free 9
                clear bp bqq hrl hsl hcp
                refine hK.out _ _ (cells28 HM.out.2.2.2 HE.out HX5.out) (fun hH => ?_)
                clear hK hH
                try simp only [Act.put, List.setIfInBounds_toArray, List.set_cons_zero, List.set_cons_succ]
                refine wpAnyH_ready (rs := [12]) (by as_aux_lemma => kernel_rfl) (by simp) (AllReadyH.cons rfl (fun K hK => ?_) AllReadyH.nil)
                go_simp
                clear y0 z0 y1 z1 y2 z2 y3 z3 y4 z4 y5 z5 y6 z6 y7 z7 y8 z8 y9 z9
                obtain ⟨bqq, hcq⟩ := set10 HM.out.2.1 (.slice (some ⟨gg, 0, none⟩) ws2.length cg) (.slice (some ⟨gb, 0, none⟩) ws2.length ws2.length) (.int .i64 e0) (.int .i64 e1) (.int .i64 e2) (.int .i64 e3) (.int .i64 e4) (.int .i64 e5) (.int .i64 (-1)) (.bool false)
                have bp := HM.out.1.chg hcq (fun e => HL.out.2.2.2.2.2.2.2.2.2.1 e)
                have hrl := HM.out.2.2.1.chg hcq (fun e => HL.out.2.2.2.2.2.2.2.2.2.2.2.1 e) (fun e => HL.out.2.2.2.2.2.2.2.2.2.2.2.2.2 e)
                have hsl := HM.out.2.2.2.free HL.out.2.2.2.2.2.2.1 HL.out.2.2.2.2.2.2.2.2.1 hcq
                generalize ((((((((((wm.setCell ⟨q, 0, none⟩ (.slice (some ⟨gg, 0, none⟩) ws2.length cg)).setCell ⟨q, 1, none⟩ (.slice (some ⟨gb, 0, none⟩) ws2.length ws2.length)).setCell ⟨q, 2, none⟩ (.int .i64 e0)).setCell ⟨q, 3, none⟩ (.int .i64 e1)).setCell ⟨q, 4, none⟩ (.int .i64 e2)).setCell ⟨q, 5, none⟩ (.int .i64 e3)).setCell ⟨q, 6, none⟩ (.int .i64 e4)).setCell ⟨q, 7, none⟩ (.int .i64 e5)).setCell ⟨q, 8, none⟩ (.int .i64 (-1))).setCell ⟨q, 9, none⟩ (.bool false)) = wn at bp hcq bqq hrl hsl ⊢
                have HN := Lib.hid (And.intro bp (And.intro bqq (And.intro hrl hsl)))
                clear bp bqq hrl hsl hcq
                refine hK.out _ _ (cells28 HN.out.2.2.2 HE.out HX5.out) (fun hH => ?_)
                clear hK hH
                try simp only [Act.put, List.setIfInBounds_toArray, List.set_cons_zero, List.set_cons_succ]
                refine wpAnyH_done (by as_aux_lemma => kernel_rfl) ?_ _
                go_wp2
                go_meet
                case rel => exact ⟨p, q, gg, cg, e0, e1, e2, e3, e4, e5, rfl, rfl, Lib.hid ⟨HN.out.1, HN.out.2.1, HN.out.2.2.1, HL.out.2.2.2.2.1, HL.out.2.2.2.2.2.1, HL.out.2.2.2.2.2.2.1, HL.out.2.2.2.2.2.2.2.1, HL.out.2.2.2.2.2.2.2.2.1, HL.out.2.2.2.2.2.2.2.2.2.1, HL.out.2.2.2.2.2.2.2.2.2.2.1, HL.out.2.2.2.2.2.2.2.2.2.2.2.1, HN.out.2.2.2⟩⟩
              · go_simp
                have HSN := Lib.hid (HSN.out.alloc (Obj.cells #[.slice none 0 0, .slice none 0 0, .int .i64 0, .int .i64 0, .int .i64 0, .int .i64 0, .int .i64 0, .int .i64 0, .int .i64 0, .bool false] 56))
                refine hK.out _ _ (cells28 HSN.out HE.out HX5.out) (fun hH => ?_)
                clear hK hH
                try simp only [Act.put, List.setIfInBounds_toArray, List.set_cons_zero, List.set_cons_succ]
                refine wpAnyH_ready (rs := [9]) (by as_aux_lemma => kernel_rfl) (by simp) (AllReadyH.cons rfl (fun K hK => ?_) (AllReadyH.nil))
                go_simp
                have HSN := Lib.hid (HSN.out.alloc (Obj.cells #[.int .i64 0, .int .i64 0, .int .i64 0, .slice none 0 0, .int .i64 0, .int .i64 0, .int .u64 0, .int .u64 0, .int .i64 0] 62))
                refine hK.out _ _ (cells28 HSN.out HE.out HX5.out) (fun hH => ?_)
                clear hK hH
                try simp only [Act.put, List.setIfInBounds_toArray, List.set_cons_zero, List.set_cons_succ]
                have bp : Blk ((w1.alloc (Obj.cells #[.slice none 0 0, .slice none 0 0, .int .i64 0, .int .i64 0, .int .i64 0, .int .i64 0, .int .i64 0, .int .i64 0, .int .i64 0, .bool false] 56)).alloc (Obj.cells #[.int .i64 0, .int .i64 0, .int .i64 0, .slice none 0 0, .int .i64 0, .int .i64 0, .int .u64 0, .int .u64 0, .int .i64 0] 62)) (w1.heap.size + 1) 62 [.int .i64 0, .int .i64 0, .int .i64 0, .slice none 0 0, .int .i64 0, .int .i64 0, .int .u64 0, .int .u64 0, .int .i64 0] := (by have h := blk_new (w1.alloc (Obj.cells #[.slice none 0 0, .slice none 0 0, .int .i64 0, .int .i64 0, .int .i64 0, .int .i64 0, .int .i64 0, .int .i64 0, .int .i64 0, .bool false] 56)) 62 #[.int .i64 0, .int .i64 0, .int .i64 0, .slice none 0 0, .int .i64 0, .int .i64 0, .int .u64 0, .int .u64 0, .int .i64 0] _ rfl; (try simp only [World.size_alloc] at h); exact h)
                have bqq : Blk ((w1.alloc (Obj.cells #[.slice none 0 0, .slice none 0 0, .int .i64 0, .int .i64 0, .int .i64 0, .int .i64 0, .int .i64 0, .int .i64 0, .int .i64 0, .bool false] 56)).alloc (Obj.cells #[.int .i64 0, .int .i64 0, .int .i64 0, .slice none 0 0, .int .i64 0, .int .i64 0, .int .u64 0, .int .u64 0, .int .i64 0] 62)) (w1.heap.size) 56 [.slice none 0 0, .slice none 0 0, .int .i64 0, .int .i64 0, .int .i64 0, .int .i64 0, .int .i64 0, .int .i64 0, .int .i64 0, .bool false] := (Blk.alloc (by have h := blk_new w1 56 #[.slice none 0 0, .slice none 0 0, .int .i64 0, .int .i64 0, .int .i64 0, .int .i64 0, .int .i64 0, .int .i64 0, .int .i64 0, .bool false] _ rfl; (try simp only [World.size_alloc] at h); exact h) (Obj.cells #[.int .i64 0, .int .i64 0, .int .i64 0, .slice none 0 0, .int .i64 0, .int .i64 0, .int .u64 0, .int .u64 0, .int .i64 0] 62))
                have hrl : RefAt ((w1.alloc (Obj.cells #[.slice none 0 0, .slice none 0 0, .int .i64 0, .int .i64 0, .int .i64 0, .int .i64 0, .int .i64 0, .int .i64 0, .int .i64 0, .bool false] 56)).alloc (Obj.cells #[.int .i64 0, .int .i64 0, .int .i64 0, .slice none 0 0, .int .i64 0, .int .i64 0, .int .u64 0, .int .u64 0, .int .i64 0] 62)) gg gb ws2 := HC1.out.1.below (bnew (bnew (Below.refl _ _) (Obj.cells #[.slice none 0 0, .slice none 0 0, .int .i64 0, .int .i64 0, .int .i64 0, .int .i64 0, .int .i64 0, .int .i64 0, .int .i64 0, .bool false] 56)) (Obj.cells #[.int .i64 0, .int .i64 0, .int .i64 0, .slice none 0 0, .int .i64 0, .int .i64 0, .int .u64 0, .int .u64 0, .int .i64 0] 62))
                have hsl : St W ((w1.alloc (Obj.cells #[.slice none 0 0, .slice none 0 0, .int .i64 0, .int .i64 0, .int .i64 0, .int .i64 0, .int .i64 0, .int .i64 0, .int .i64 0, .bool false] 56)).alloc (Obj.cells #[.int .i64 0, .int .i64 0, .int .i64 0, .slice none 0 0, .int .i64 0, .int .i64 0, .int .u64 0, .int .u64 0, .int .i64 0] 62)) χ m W.heap.size s ba b bw bb bx gw gb (.slice (some ⟨g7, 0, none⟩) n' cap7) (.slice (some ⟨g8, 0, none⟩) n' cap8) ws ws (es.map Ent.bo) es := HSN.out
                have hwz : wr.heap.size ≤ w1.heap.size := by have h : wr.heap.size ≤ w1.heap.size := HC1.out.2.2.size; exact h
                have hfp : χ (w1.heap.size + 1) = 0 := HS.out.hp.fresh (by omega)
                have hfq : χ (w1.heap.size) = 0 := HS.out.hp.fresh (by omega)
                have hgp : W.heap.size ≤ w1.heap.size + 1 := by have := HS.out.hp.below.size; omega
                have hgq : W.heap.size ≤ w1.heap.size := by have := HS.out.hp.below.size; omega
                have hpq : w1.heap.size + 1 ≠ w1.heap.size := by omega
                have hgl : gg < w1.heap.size := by obtain ⟨_, hgb⟩ := HC1.out.1.words; exact hgb.lt
                have hgs : gg = gw ∨ (χ gg = 0 ∧ W.heap.size ≤ gg) := HC1.out.2.1
                have hgp' : gg ≠ w1.heap.size + 1 := by omega
                have hgq' : gg ≠ w1.heap.size := by omega
                generalize w1.heap.size + 1 = p at bp bqq hfp hfq hgp hgq hpq hgp' hgq' ⊢
                generalize w1.heap.size = q at bp bqq hfp hfq hgp hgq hpq hgp' hgq' ⊢
                generalize ((w1.alloc (Obj.cells #[.slice none 0 0, .slice none 0 0, .int .i64 0, .int .i64 0, .int .i64 0, .int .i64 0, .int .i64 0, .int .i64 0, .int .i64 0, .bool false] 56)).alloc (Obj.cells #[.int .i64 0, .int .i64 0, .int .i64 0, .slice none 0 0, .int .i64 0, .int .i64 0, .int .u64 0, .int .u64 0, .int .i64 0] 62)) = wl at bp bqq hrl hsl ⊢
                have hgbp : gb ≠ p ∧ gb ≠ q := ⟨fun e => by subst e; exact GBN.out hfp, fun e => by subst e; exact GBN.out hfq⟩
                have HL := Lib.hid (And.intro bp (And.intro bqq (And.intro hrl (And.intro hsl (And.intro hgs (And.intro hfp (And.intro hfq (And.intro hgp (And.intro hgq (And.intro hpq (And.intro hgp' (And.intro hgq' hgbp))))))))))))
                have y0 : wl.cell? ⟨p, 0, none⟩ = some (.int .i64 0) := bp.cell 0
                have z0 := bp.free 0
                have y1 : wl.cell? ⟨p, 1, none⟩ = some (.int .i64 0) := bp.cell 1
                have z1 := bp.free 1
                have y2 : wl.cell? ⟨p, 2, none⟩ = some (.int .i64 0) := bp.cell 2
                have z2 := bp.free 2
                have y3 : wl.cell? ⟨p, 3, none⟩ = some (.slice none 0 0) := bp.cell 3
                have z3 := bp.free 3
                have y4 : wl.cell? ⟨p, 4, none⟩ = some (.int .i64 0) := bp.cell 4
                have z4 := bp.free 4
                have y5 : wl.cell? ⟨p, 5, none⟩ = some (.int .i64 0) := bp.cell 5
                have z5 := bp.free 5
                have y6 : wl.cell? ⟨p, 6, none⟩ = some (.int .u64 0) := bp.cell 6
                have z6 := bp.free 6
                have y7 : wl.cell? ⟨p, 7, none⟩ = some (.int .u64 0) := bp.cell 7
                have z7 := bp.free 7
                have y8 : wl.cell? ⟨p, 8, none⟩ = some (.int .i64 0) := bp.cell 8
                have z8 := bp.free 8
                clear bp bqq hrl hsl hgs hfp hfq hgp hgq hpq hgp' hgq' hgbp hgl hwz
                refine wpAnyH_ready (rs := [11]) (by as_aux_lemma => kernel_rfl) (by simp) (AllReadyH.cons rfl (fun K hK => ?_) AllReadyH.nil)
                go_simp
                clear y0 z0 y1 z1 y2 z2 y3 z3 y4 z4 y5 z5 y6 z6 y7 z7 y8 z8
                obtain ⟨bp, hcp⟩ := set9 HL.out.1 (.int .i64 o2.a) (.int .i64 o2.s) (.int .i64 o2.m) (.slice (some ⟨bq, 0, none⟩) o.words.length cq) (.int .i64 o2.pc) (.int .i64 o2.k) (.int .u64 o2.p) (.int .u64 o2.g) (.int .i64 o2.code)
                have bqq := HL.out.2.1.chg hcp (fun e => HL.out.2.2.2.2.2.2.2.2.2.1 e.symm)
                have hrl := HL.out.2.2.1.chg hcp (fun e => HL.out.2.2.2.2.2.2.2.2.2.2.1 e) (fun e => HL.out.2.2.2.2.2.2.2.2.2.2.2.2.1 e)
                have hsl := HL.out.2.2.2.1.free HL.out.2.2.2.2.2.1 HL.out.2.2.2.2.2.2.2.1 hcp
                generalize (((((((((wl.setCell ⟨p, 0, none⟩ (.int .i64 o2.a)).setCell ⟨p, 1, none⟩ (.int .i64 o2.s)).setCell ⟨p, 2, none⟩ (.int .i64 o2.m)).setCell ⟨p, 3, none⟩ (.slice (some ⟨bq, 0, none⟩) o.words.length cq)).setCell ⟨p, 4, none⟩ (.int .i64 o2.pc)).setCell ⟨p, 5, none⟩ (.int .i64 o2.k)).setCell ⟨p, 6, none⟩ (.int .u64 o2.p)).setCell ⟨p, 7, none⟩ (.int .u64 o2.g)).setCell ⟨p, 8, none⟩ (.int .i64 o2.code)) = wm at bp hcp bqq hrl hsl ⊢
                have HM := Lib.hid (And.intro bp (And.intro bqq (And.intro hrl hsl)))
                have y0 : wm.cell? ⟨q, 0, none⟩ = some (.slice none 0 0) := bqq.cell 0
                have z0 := bqq.free 0
                have y1 : wm.cell? ⟨q, 1, none⟩ = some (.slice none 0 0) := bqq.cell 1
                have z1 := bqq.free 1
                have y2 : wm.cell? ⟨q, 2, none⟩ = some (.int .i64 0) := bqq.cell 2
                have z2 := bqq.free 2
                have y3 : wm.cell? ⟨q, 3, none⟩ = some (.int .i64 0) := bqq.cell 3
                have z3 := bqq.free 3
                have y4 : wm.cell? ⟨q, 4, none⟩ = some (.int .i64 0) := bqq.cell 4
                have z4 := bqq.free 4
                have y5 : wm.cell? ⟨q, 5, none⟩ = some (.int .i64 0) := bqq.cell 5
                have z5 := bqq.free 5
                have y6 : wm.cell? ⟨q, 6, none⟩ = some (.int .i64 0) := bqq.cell 6
                have z6 := bqq.free 6
                have y7 : wm.cell? ⟨q, 7, none⟩ = some (.int .i64 0) := bqq.cell 7
                have z7 := bqq.free 7
                have y8 : wm.cell? ⟨q, 8, none⟩ = some (.int .i64 0) := bqq.cell 8
                have z8 := bqq.free 8
                have y9 : wm.cell? ⟨q, 9, none⟩ = some (.bool false) := bqq.cell 9
                have z9 := bqq.free 9
                clear bp bqq hrl hsl hcp
                refine hK.out _ _ (cells28 HM.out.2.2.2 HE.out HX5.out) (fun hH => ?_)
                clear hK hH
                try simp only [Act.put, List.setIfInBounds_toArray, List.set_cons_zero, List.set_cons_succ]
                refine wpAnyH_ready (rs := [12]) (by as_aux_lemma => kernel_rfl) (by simp) (AllReadyH.cons rfl (fun K hK => ?_) AllReadyH.nil)
                go_simp
                clear y0 z0 y1 z1 y2 z2 y3 z3 y4 z4 y5 z5 y6 z6 y7 z7 y8 z8 y9 z9
                obtain ⟨bqq, hcq⟩ := set10 HM.out.2.1 (.slice (some ⟨gg, 0, none⟩) ws2.length cg) (.slice (some ⟨gb, 0, none⟩) ws2.length ws2.length) (.int .i64 e0) (.int .i64 e1) (.int .i64 e2) (.int .i64 e3) (.int .i64 e4) (.int .i64 e5) (.int .i64 (-1)) (.bool false)
                have bp := HM.out.1.chg hcq (fun e => HL.out.2.2.2.2.2.2.2.2.2.1 e)
                have hrl := HM.out.2.2.1.chg hcq (fun e => HL.out.2.2.2.2.2.2.2.2.2.2.2.1 e) (fun e => HL.out.2.2.2.2.2.2.2.2.2.2.2.2.2 e)
                have hsl := HM.out.2.2.2.free HL.out.2.2.2.2.2.2.1 HL.out.2.2.2.2.2.2.2.2.1 hcq
                generalize ((((((((((wm.setCell ⟨q, 0, none⟩ (.slice (some ⟨gg, 0, none⟩) ws2.length cg)).setCell ⟨q, 1, none⟩ (.slice (some ⟨gb, 0, none⟩) ws2.length ws2.length)).setCell ⟨q, 2, none⟩ (.int .i64 e0)).setCell ⟨q, 3, none⟩ (.int .i64 e1)).setCell ⟨q, 4, none⟩ (.int .i64 e2)).setCell ⟨q, 5, none⟩ (.int .i64 e3)).setCell ⟨q, 6, none⟩ (.int .i64 e4)).setCell ⟨q, 7, none⟩ (.int .i64 e5)).setCell ⟨q, 8, none⟩ (.int .i64 (-1))).setCell ⟨q, 9, none⟩ (.bool false)) = wn at bp hcq bqq hrl hsl ⊢
                have HN := Lib.hid (And.intro bp (And.intro bqq (And.intro hrl hsl)))
                clear bp bqq hrl hsl hcq
                refine hK.out _ _ (cells28 HN.out.2.2.2 HE.out HX5.out) (fun hH => ?_)
                clear hK hH
                try simp only [Act.put, List.setIfInBounds_toArray, List.set_cons_zero, List.set_cons_succ]
                refine wpAnyH_done (by as_aux_lemma => kernel_rfl) ?_ _
                go_wp2
                go_meet
                case rel => exact ⟨p, q, gg, cg, e0, e1, e2, e3, e4, e5, rfl, rfl, Lib.hid ⟨HN.out.1, HN.out.2.1, HN.out.2.2.1, HL.out.2.2.2.2.1, HL.out.2.2.2.2.2.1, HL.out.2.2.2.2.2.2.1, HL.out.2.2.2.2.2.2.2.1, HL.out.2.2.2.2.2.2.2.2.1, HL.out.2.2.2.2.2.2.2.2.2.1, HL.out.2.2.2.2.2.2.2.2.2.2.1, HL.out.2.2.2.2.2.2.2.2.2.2.2.1, HN.out.2.2.2⟩⟩
            · go_simp
              have HSN := Lib.hid ((Lib.hid HS.out.drew).out.alloc (Obj.cells #[.int .i64 0, .int .i64 0, .int .i64 0, .slice none 0 0, .int .i64 0, .int .i64 0, .int .u64 0, .int .u64 0, .int .i64 0] 62))
              refine hK.out _ _ (cells28 HSN.out HE.out HX5.out) (fun hH => ?_)
              clear hK hH
              try simp only [Act.put, List.setIfInBounds_toArray, List.set_cons_zero, List.set_cons_succ]
              refine wpAnyH_ready (rs := [5, 10]) (by as_aux_lemma => kernel_rfl) (by simp) (AllReadyH.cons rfl (fun K hK => ?_) (AllReadyH.cons rfl (fun K hK => ?_) (AllReadyH.nil)))
              · go_simp
                have HSC := HSN
                refine (refop_calls gw cx gb d0 d1 d2 d3 d4 d5 ws o (some ⟨bq, 0, none⟩) o.words.length cq _ (HSC.out.ref.at HSC.out.hp) HNO.out rfl HCO.out (HWQ.out _ HSC.out)).mono ?_; rintro e w1 hto
                rw [HO2.out.1, HO2.out.2] at hto
                obtain ⟨gg, cg, e0, e1, e2, e3, e4, e5, he, hr1, hg1, hb1⟩ := hto
                obtain rfl : e = .returned (.tuple #[.agg #[.int .i64 o2.a, .int .i64 o2.s, .int .i64 o2.m, .slice (some ⟨bq, 0, none⟩) o.words.length cq, .int .i64 o2.pc, .int .i64 o2.k, .int .u64 o2.p, .int .u64 o2.g, .int .i64 o2.code], .agg #[.slice (some ⟨gg, 0, none⟩) ws2.length cg, .slice (some ⟨gb, 0, none⟩) ws2.length ws2.length, .int .i64 e0, .int .i64 e1, .int .i64 e2, .int .i64 e3, .int .i64 e4, .int .i64 e5, .int .i64 (-1), .bool false]]) := he
                have HC1 := Lib.hid (And.intro hr1 (And.intro (show gg = gw ∨ (χ gg = 0 ∧ W.heap.size ≤ gg) from hg1.imp id (fun h => ⟨HSC.out.hp.fresh h, by have := HSC.out.hp.below.size; omega⟩)) hb1))
                clear hr1 hg1 hb1
                have HSN := Lib.hid (HSC.out.keep HC1.out.2.2)
                refine hK.out _ _ (cells28 HSN.out HE.out HX5.out) (fun hH => ?_)
                clear hK hH
                try simp only [Act.put, List.setIfInBounds_toArray, List.set_cons_zero, List.set_cons_succ]
                refine take_first 6 (some 170) ?_ rfl rfl (by as_aux_lemma => kernel_rfl) (by as_aux_lemma => kernel_rfl) (by as_aux_lemma => kernel_rfl) (fun _ _ _ h => h) rfl ?hy (cells28 HSN.out HE.out HX5.out) ?_
                case hy => (intro w0 hS0; (try dsimp only at hS0); (try go_simp); try with_reducible rfl)
                try simp only [Act.put, List.setIfInBounds_toArray, List.set_cons_zero, List.set_cons_succ]
                refine take_first 7 (some 177) ?_ rfl rfl (by as_aux_lemma => kernel_rfl) (by as_aux_lemma => kernel_rfl) (by as_aux_lemma => kernel_rfl) (fun _ _ _ h => h) rfl ?hy (cells28 HSN.out HE.out HX5.out) ?_
                case hy => (intro w0 hS0; (try dsimp only at hS0); (try go_simp); try with_reducible rfl)
                try simp only [Act.put, List.setIfInBounds_toArray, List.set_cons_zero, List.set_cons_succ]
                refine take_first 8 (some 178) ?_ rfl rfl (by as_aux_lemma => kernel_rfl) (by as_aux_lemma => kernel_rfl) (by as_aux_lemma => kernel_rfl) (fun _ _ _ h => h) rfl ?hy (cells28 HSN.out HE.out HX5.out) ?_
                case hy => (intro w0 hS0; (try dsimp only at hS0); (try go_simp); try with_reducible rfl)
                try simp only [Act.put, List.setIfInBounds_toArray, List.set_cons_zero, List.set_cons_succ]
                refine wpAnyH_ready (rs := [10]) (by as_aux_lemma => kernel_rfl) (by simp) (AllReadyH.cons rfl (fun K hK => ?_) (AllReadyH.nil))
                go_simp
                have HSN := Lib.hid (HSN.out.alloc (Obj.cells #[.slice none 0 0, .slice none 0 0, .int .i64 0, .int .i64 0, .int .i64 0, .int .i64 0, .int .i64 0, .int .i64 0, .int .i64 0, .bool false] 56))
                refine hK.out _ _ (cells28 HSN.out HE.out HX5.out) (fun hH => ?_)
                clear hK hH
                try simp only [Act.put, List.setIfInBounds_toArray, List.set_cons_zero, List.set_cons_succ]
                have bp : Blk (w1.alloc (Obj.cells #[.slice none 0 0, .slice none 0 0, .int .i64 0, .int .i64 0, .int .i64 0, .int .i64 0, .int .i64 0, .int .i64 0, .int .i64 0, .bool false] 56)) (wr.heap.size) 62 [.int .i64 0, .int .i64 0, .int .i64 0, .slice none 0 0, .int .i64 0, .int .i64 0, .int .u64 0, .int .u64 0, .int .i64 0] := (Blk.alloc (Blk.chg (S := fun _ => False) (w := (wr.alloc (Obj.cells #[.int .i64 0, .int .i64 0, .int .i64 0, .slice none 0 0, .int .i64 0, .int .i64 0, .int .u64 0, .int .u64 0, .int .i64 0] 62)).drew) (by have h := blk_new wr 62 #[.int .i64 0, .int .i64 0, .int .i64 0, .slice none 0 0, .int .i64 0, .int .i64 0, .int .u64 0, .int .u64 0, .int .i64 0] _ rfl; (try simp only [World.size_alloc] at h); exact h) (chg_of_below _ HC1.out.2.2) (fun h => h)) (Obj.cells #[.slice none 0 0, .slice none 0 0, .int .i64 0, .int .i64 0, .int .i64 0, .int .i64 0, .int .i64 0, .int .i64 0, .int .i64 0, .bool false] 56))
                have bqq : Blk (w1.alloc (Obj.cells #[.slice none 0 0, .slice none 0 0, .int .i64 0, .int .i64 0, .int .i64 0, .int .i64 0, .int .i64 0, .int .i64 0, .int .i64 0, .bool false] 56)) (w1.heap.size) 56 [.slice none 0 0, .slice none 0 0, .int .i64 0, .int .i64 0, .int .i64 0, .int .i64 0, .int .i64 0, .int .i64 0, .int .i64 0, .bool false] := (by have h := blk_new w1 56 #[.slice none 0 0, .slice none 0 0, .int .i64 0, .int .i64 0, .int .i64 0, .int .i64 0, .int .i64 0, .int .i64 0, .int .i64 0, .bool false] _ rfl; (try simp only [World.size_alloc] at h); exact h)
                have hrl : RefAt (w1.alloc (Obj.cells #[.slice none 0 0, .slice none 0 0, .int .i64 0, .int .i64 0, .int .i64 0, .int .i64 0, .int .i64 0, .int .i64 0, .int .i64 0, .bool false] 56)) gg gb ws2 := HC1.out.1.below (bnew (Below.refl _ _) (Obj.cells #[.slice none 0 0, .slice none 0 0, .int .i64 0, .int .i64 0, .int .i64 0, .int .i64 0, .int .i64 0, .int .i64 0, .int .i64 0, .bool false] 56))
                have hsl : St W (w1.alloc (Obj.cells #[.slice none 0 0, .slice none 0 0, .int .i64 0, .int .i64 0, .int .i64 0, .int .i64 0, .int .i64 0, .int .i64 0, .int .i64 0, .bool false] 56)) χ m W.heap.size s ba b bw bb bx gw gb (.slice (some ⟨g7, 0, none⟩) n' cap7) (.slice (some ⟨g8, 0, none⟩) n' cap8) ws ws (es.map Ent.bo) es := HSN.out
                have hwz : wr.heap.size + 1 ≤ w1.heap.size := by have h : (wr.alloc (Obj.cells #[.int .i64 0, .int .i64 0, .int .i64 0, .slice none 0 0, .int .i64 0, .int .i64 0, .int .u64 0, .int .u64 0, .int .i64 0] 62)).heap.size ≤ w1.heap.size := HC1.out.2.2.size; simp only [World.size_alloc] at h; exact h
                have hfp : χ (wr.heap.size) = 0 := HS.out.hp.fresh (by omega)
                have hfq : χ (w1.heap.size) = 0 := HS.out.hp.fresh (by omega)
                have hgp : W.heap.size ≤ wr.heap.size := by have := HS.out.hp.below.size; omega
                have hgq : W.heap.size ≤ w1.heap.size := by have := HS.out.hp.below.size; omega
                have hpq : wr.heap.size ≠ w1.heap.size := by omega
                have hgl : gg < w1.heap.size := by obtain ⟨_, hgb⟩ := HC1.out.1.words; exact hgb.lt
                have hgs : gg = gw ∨ (χ gg = 0 ∧ W.heap.size ≤ gg) := HC1.out.2.1
                have hgp' : gg ≠ wr.heap.size := gg_ne HC1.out.1 (Blk.chg (S := fun _ => False) (w := (wr.alloc (Obj.cells #[.int .i64 0, .int .i64 0, .int .i64 0, .slice none 0 0, .int .i64 0, .int .i64 0, .int .u64 0, .int .u64 0, .int .i64 0] 62)).drew) (by have h := blk_new wr 62 #[.int .i64 0, .int .i64 0, .int .i64 0, .slice none 0 0, .int .i64 0, .int .i64 0, .int .u64 0, .int .u64 0, .int .i64 0] _ rfl; (try simp only [World.size_alloc] at h); exact h) (chg_of_below _ HC1.out.2.2) (fun h => h)) (by decide)
                have hgq' : gg ≠ w1.heap.size := by omega
                generalize wr.heap.size = p at bp bqq hfp hfq hgp hgq hpq hgp' hgq' ⊢
                generalize w1.heap.size = q at bp bqq hfp hfq hgp hgq hpq hgp' hgq' ⊢
                generalize (w1.alloc (Obj.cells #[.slice none 0 0, .slice none 0 0, .int .i64 0, .int .i64 0, .int .i64 0, .int .i64 0, .int .i64 0, .int .i64 0, .int .i64 0, .bool false] 56)) = wl at bp bqq hrl hsl ⊢
                have hgbp : gb ≠ p ∧ gb ≠ q := ⟨fun e => by subst e; exact GBN.out hfp, fun e => by subst e; exact GBN.out hfq⟩
                have HL := Lib.hid (And.intro bp (And.intro bqq (And.intro hrl (And.intro hsl (And.intro hgs (And.intro hfp (And.intro hfq (And.intro hgp (And.intro hgq (And.intro hpq (And.intro hgp' (And.intro hgq' hgbp))))))))))))
                have y0 : wl.cell? ⟨p, 0, none⟩ = some (.int .i64 0) := bp.cell 0
                have z0 := bp.free 0
                have y1 : wl.cell? ⟨p, 1, none⟩ = some (.int .i64 0) := bp.cell 1
                have z1 := bp.free 1
                have y2 : wl.cell? ⟨p, 2, none⟩ = some (.int .i64 0) := bp.cell 2
                have z2 := bp.free 2
                have y3 : wl.cell? ⟨p, 3, none⟩ = some (.slice none 0 0) := bp.cell 3
                have z3 := bp.free 3
                have y4 : wl.cell? ⟨p, 4, none⟩ = some (.int .i64 0) := bp.cell 4
                have z4 := bp.free 4
                have y5 : wl.cell? ⟨p, 5, none⟩ = some (.int .i64 0) := bp.cell 5
                have z5 := bp.free 5
                have y6 : wl.cell? ⟨p, 6, none⟩ = some (.int .u64 0) := bp.cell 6
                have z6 := bp.free 6
                have y7 : wl.cell? ⟨p, 7, none⟩ = some (.int .u64 0) := bp.cell 7
                have z7 := bp.free 7
                have y8 : wl.cell? ⟨p, 8, none⟩ = some (.int .i64 0) := bp.cell 8
                have z8 := bp.free 8
                clear bp bqq hrl hsl hgs hfp hfq hgp hgq hpq hgp' hgq' hgbp hgl hwz
                refine wpAnyH_ready (rs := [11]) (by as_aux_lemma => kernel_rfl) (by simp) (AllReadyH.cons rfl (fun K hK => ?_) AllReadyH.nil)
                go_simp
                clear y0 z0 y1 z1 y2 z2 y3 z3 y4 z4 y5 z5 y6 z6 y7 z7 y8 z8
                obtain ⟨bp, hcp⟩ := set9 HL.out.1 (.int .i64 o2.a) (.int .i64 o2.s) (.int .i64 o2.m) (.slice (some ⟨bq, 0, none⟩) o.words.length cq) (.int .i64 o2.pc) (.int .i64 o2.k) (.int .u64 o2.p) (.int .u64 o2.g) (.int .i64 o2.code)
                have bqq := HL.out.2.1.chg hcp (fun e => HL.out.2.2.2.2.2.2.2.2.2.1 e.symm)
                have hrl := HL.out.2.2.1.chg hcp (fun e => HL.out.2.2.2.2.2.2.2.2.2.2.1 e) (fun e => HL.out.2.2.2.2.2.2.2.2.2.2.2.2.1 e)
                have hsl := HL.out.2.2.2.1.free HL.out.2.2.2.2.2.1 HL.out.2.2.2.2.2.2.2.1 hcp
                generalize (((((((((wl.setCell ⟨p, 0, none⟩ (.int .i64 o2.a)).setCell ⟨p, 1, none⟩ (.int .i64 o2.s)).setCell ⟨p, 2, none⟩ (.int .i64 o2.m)).setCell ⟨p, 3, none⟩ (.slice (some ⟨bq, 0, none⟩) o.words.length cq)).setCell ⟨p, 4, none⟩ (.int .i64 o2.pc)).setCell ⟨p, 5, none⟩ (.int .i64 o2.k)).setCell ⟨p, 6, none⟩ (.int .u64 o2.p)).setCell ⟨p, 7, none⟩ (.int .u64 o2.g)).setCell ⟨p, 8, none⟩ (.int .i64 o2.code)) = wm at bp hcp bqq hrl hsl ⊢
                have HM := Lib.hid (And.intro bp (And.intro bqq (And.intro hrl hsl)))
                have y0 : wm.cell? ⟨q, 0, none⟩ = some (.slice none 0 0) := bqq.cell 0
                have z0 := bqq.free 0
                have y1 : wm.cell? ⟨q, 1, none⟩ = some (.slice none 0 0) := bqq.cell 1
                have z1 := bqq.free 1
                have y2 : wm.cell? ⟨q, 2, none⟩ = some (.int .i64 0) := bqq.cell 2
                have z2 := bqq.free 2
                have y3 : wm.cell? ⟨q, 3, none⟩ = some (.int .i64 0) := bqq.cell 3
                have z3 := bqq.free 3
                have y4 : wm.cell? ⟨q, 4, none⟩ = some (.int .i64 0) := bqq.cell 4
                have z4 := bqq.free 4
                have y5 : wm.cell? ⟨q, 5, none⟩ = some (.int .i64 0) := bqq.cell 5
                have z5 := bqq.free 5
                have y6 : wm.cell? ⟨q, 6, none⟩ = some (.int .i64 0) := bqq.cell 6
                have z6 := bqq.free 6
                have y7 : wm.cell? ⟨q, 7, none⟩ = some (.int .i64 0) := bqq.cell 7
                have z7 := bqq.free 7
                have y8 : wm.cell? ⟨q, 8, none⟩ = some (.int .i64 0) := bqq.cell 8
                have z8 := bqq.free 8
                have y9 : wm.cell? ⟨q, 9, none⟩ = some (.bool false) := bqq.cell 9
                have z9 := bqq.free 9
                clear bp bqq hrl hsl hcp
                refine hK.out _ _ (cells28 HM.out.2.2.2 HE.out HX5.out) (fun hH => ?_)
                clear hK hH
                try simp only [Act.put, List.setIfInBounds_toArray, List.set_cons_zero, List.set_cons_succ]
                refine wpAnyH_ready (rs := [12]) (by as_aux_lemma => kernel_rfl) (by simp) (AllReadyH.cons rfl (fun K hK => ?_) AllReadyH.nil)
                go_simp
                clear y0 z0 y1 z1 y2 z2 y3 z3 y4 z4 y5 z5 y6 z6 y7 z7 y8 z8 y9 z9
                obtain ⟨bqq, hcq⟩ := set10 HM.out.2.1 (.slice (some ⟨gg, 0, none⟩) ws2.length cg) (.slice (some ⟨gb, 0, none⟩) ws2.length ws2.length) (.int .i64 e0) (.int .i64 e1) (.int .i64 e2) (.int .i64 e3) (.int .i64 e4) (.int .i64 e5) (.int .i64 (-1)) (.bool false)
                have bp := HM.out.1.chg hcq (fun e => HL.out.2.2.2.2.2.2.2.2.2.1 e)
                have hrl := HM.out.2.2.1.chg hcq (fun e => HL.out.2.2.2.2.2.2.2.2.2.2.2.1 e) (fun e => HL.out.2.2.2.2.2.2.2.2.2.2.2.2.2 e)
                have hsl := HM.out.2.2.2.free HL.out.2.2.2.2.2.2.1 HL.out.2.2.2.2.2.2.2.2.1 hcq
                generalize ((((((((((wm.setCell ⟨q, 0, none⟩ (.slice (some ⟨gg, 0, none⟩) ws2.length cg)).setCell ⟨q, 1, none⟩ (.slice (some ⟨gb, 0, none⟩) ws2.length ws2.length)).setCell ⟨q, 2, none⟩ (.int .i64 e0)).setCell ⟨q, 3, none⟩ (.int .i64 e1)).setCell ⟨q, 4, none⟩ (.int .i64 e2)).setCell ⟨q, 5, none⟩ (.int .i64 e3)).setCell ⟨q, 6, none⟩ (.int .i64 e4)).setCell ⟨q, 7, none⟩ (.int .i64 e5)).setCell ⟨q, 8, none⟩ (.int .i64 (-1))).setCell ⟨q, 9, none⟩ (.bool false)) = wn at bp hcq bqq hrl hsl ⊢
                have HN := Lib.hid (And.intro bp (And.intro bqq (And.intro hrl hsl)))
                clear bp bqq hrl hsl hcq
                refine hK.out _ _ (cells28 HN.out.2.2.2 HE.out HX5.out) (fun hH => ?_)
                clear hK hH
                try simp only [Act.put, List.setIfInBounds_toArray, List.set_cons_zero, List.set_cons_succ]
                refine wpAnyH_done (by as_aux_lemma => kernel_rfl) ?_ _
                go_wp2
                go_meet
                case rel => exact ⟨p, q, gg, cg, e0, e1, e2, e3, e4, e5, rfl, rfl, Lib.hid ⟨HN.out.1, HN.out.2.1, HN.out.2.2.1, HL.out.2.2.2.2.1, HL.out.2.2.2.2.2.1, HL.out.2.2.2.2.2.2.1, HL.out.2.2.2.2.2.2.2.1, HL.out.2.2.2.2.2.2.2.2.1, HL.out.2.2.2.2.2.2.2.2.2.1, HL.out.2.2.2.2.2.2.2.2.2.2.1, HL.out.2.2.2.2.2.2.2.2.2.2.2.1, HN.out.2.2.2⟩⟩
              · go_simp
                have HSN := Lib.hid (HSN.out.alloc (Obj.cells #[.slice none 0 0, .slice none 0 0, .int .i64 0, .int .i64 0, .int .i64 0, .int .i64 0, .int .i64 0, .int .i64 0, .int .i64 0, .bool false] 56))
                refine hK.out _ _ (cells28 HSN.out HE.out HX5.out) (fun hH => ?_)
                clear hK hH
                try simp only [Act.put, List.setIfInBounds_toArray, List.set_cons_zero, List.set_cons_succ]
                refine wpAnyH_ready (rs := [5]) (by as_aux_lemma => kernel_rfl) (by simp) (AllReadyH.cons rfl (fun K hK => ?_) (AllReadyH.nil))
                go_simp
                have HSC := HSN
                refine (refop_calls gw cx gb d0 d1 d2 d3 d4 d5 ws o (some ⟨bq, 0, none⟩) o.words.length cq _ (HSC.out.ref.at HSC.out.hp) HNO.out rfl HCO.out (HWQ.out _ HSC.out)).mono ?_; rintro e w1 hto
                rw [HO2.out.1, HO2.out.2] at hto
                obtain ⟨gg, cg, e0, e1, e2, e3, e4, e5, he, hr1, hg1, hb1⟩ := hto
                obtain rfl : e = .returned (.tuple #[.agg #[.int .i64 o2.a, .int .i64 o2.s, .int .i64 o2.m, .slice (some ⟨bq, 0, none⟩) o.words.length cq, .int .i64 o2.pc, .int .i64 o2.k, .int .u64 o2.p, .int .u64 o2.g, .int .i64 o2.code], .agg #[.slice (some ⟨gg, 0, none⟩) ws2.length cg, .slice (some ⟨gb, 0, none⟩) ws2.length ws2.length, .int .i64 e0, .int .i64 e1, .int .i64 e2, .int .i64 e3, .int .i64 e4, .int .i64 e5, .int .i64 (-1), .bool false]]) := he
                have HC1 := Lib.hid (And.intro hr1 (And.intro (show gg = gw ∨ (χ gg = 0 ∧ W.heap.size ≤ gg) from hg1.imp id (fun h => ⟨HSC.out.hp.fresh h, by have := HSC.out.hp.below.size; omega⟩)) hb1))
                clear hr1 hg1 hb1
                have HSN := Lib.hid (HSC.out.keep HC1.out.2.2)
                refine hK.out _ _ (cells28 HSN.out HE.out HX5.out) (fun hH => ?_)
                clear hK hH
                try simp only [Act.put, List.setIfInBounds_toArray, List.set_cons_zero, List.set_cons_succ]
                refine take_first 6 (some 170) ?_ rfl rfl (by as_aux_lemma => kernel_rfl) (by as_aux_lemma => kernel_rfl) (by as_aux_lemma => kernel_rfl) (fun _ _ _ h => h) rfl ?hy (cells28 HSN.out HE.out HX5.out) ?_
                case hy => (intro w0 hS0; (try dsimp only at hS0); (try go_simp); try with_reducible rfl)
                try simp only [Act.put, List.setIfInBounds_toArray, List.set_cons_zero, List.set_cons_succ]
                refine take_first 7 (some 177) ?_ rfl rfl (by as_aux_lemma => kernel_rfl) (by as_aux_lemma => kernel_rfl) (by as_aux_lemma => kernel_rfl) (fun _ _ _ h => h) rfl ?hy (cells28 HSN.out HE.out HX5.out) ?_
                case hy => (intro w0 hS0; (try dsimp only at hS0); (try go_simp); try with_reducible rfl)
                try simp only [Act.put, List.setIfInBounds_toArray, List.set_cons_zero, List.set_cons_succ]
                refine take_first 8 (some 178) ?_ rfl rfl (by as_aux_lemma => kernel_rfl) (by as_aux_lemma => kernel_rfl) (by as_aux_lemma => kernel_rfl) (fun _ _ _ h => h) rfl ?hy (cells28 HSN.out HE.out HX5.out) ?_
                case hy => (intro w0 hS0; (try dsimp only at hS0); (try go_simp); try with_reducible rfl)
                try simp only [Act.put, List.setIfInBounds_toArray, List.set_cons_zero, List.set_cons_succ]
                have bp : Blk w1 (wr.heap.size) 62 [.int .i64 0, .int .i64 0, .int .i64 0, .slice none 0 0, .int .i64 0, .int .i64 0, .int .u64 0, .int .u64 0, .int .i64 0] := (Blk.chg (S := fun _ => False) (w := ((wr.alloc (Obj.cells #[.int .i64 0, .int .i64 0, .int .i64 0, .slice none 0 0, .int .i64 0, .int .i64 0, .int .u64 0, .int .u64 0, .int .i64 0] 62)).alloc (Obj.cells #[.slice none 0 0, .slice none 0 0, .int .i64 0, .int .i64 0, .int .i64 0, .int .i64 0, .int .i64 0, .int .i64 0, .int .i64 0, .bool false] 56)).drew) (Blk.alloc (by have h := blk_new wr 62 #[.int .i64 0, .int .i64 0, .int .i64 0, .slice none 0 0, .int .i64 0, .int .i64 0, .int .u64 0, .int .u64 0, .int .i64 0] _ rfl; (try simp only [World.size_alloc] at h); exact h) (Obj.cells #[.slice none 0 0, .slice none 0 0, .int .i64 0, .int .i64 0, .int .i64 0, .int .i64 0, .int .i64 0, .int .i64 0, .int .i64 0, .bool false] 56)) (chg_of_below _ HC1.out.2.2) (fun h => h))
                have bqq : Blk w1 (wr.heap.size + 1) 56 [.slice none 0 0, .slice none 0 0, .int .i64 0, .int .i64 0, .int .i64 0, .int .i64 0, .int .i64 0, .int .i64 0, .int .i64 0, .bool false] := (Blk.chg (S := fun _ => False) (w := ((wr.alloc (Obj.cells #[.int .i64 0, .int .i64 0, .int .i64 0, .slice none 0 0, .int .i64 0, .int .i64 0, .int .u64 0, .int .u64 0, .int .i64 0] 62)).alloc (Obj.cells #[.slice none 0 0, .slice none 0 0, .int .i64 0, .int .i64 0, .int .i64 0, .int .i64 0, .int .i64 0, .int .i64 0, .int .i64 0, .bool false] 56)).drew) (by have h := blk_new (wr.alloc (Obj.cells #[.int .i64 0, .int .i64 0, .int .i64 0, .slice none 0 0, .int .i64 0, .int .i64 0, .int .u64 0, .int .u64 0, .int .i64 0] 62)) 56 #[.slice none 0 0, .slice none 0 0, .int .i64 0, .int .i64 0, .int .i64 0, .int .i64 0, .int .i64 0, .int .i64 0, .int .i64 0, .bool false] _ rfl; (try simp only [World.size_alloc] at h); exact h) (chg_of_below _ HC1.out.2.2) (fun h => h))
                have hrl : RefAt w1 gg gb ws2 := HC1.out.1.below (Below.refl _ _)
                have hsl : St W w1 χ m W.heap.size s ba b bw bb bx gw gb (.slice (some ⟨g7, 0, none⟩) n' cap7) (.slice (some ⟨g8, 0, none⟩) n' cap8) ws ws (es.map Ent.bo) es := HSN.out
                have hwz : wr.heap.size + 1 + 1 ≤ w1.heap.size := by have h : ((wr.alloc (Obj.cells #[.int .i64 0, .int .i64 0, .int .i64 0, .slice none 0 0, .int .i64 0, .int .i64 0, .int .u64 0, .int .u64 0, .int .i64 0] 62)).alloc (Obj.cells #[.slice none 0 0, .slice none 0 0, .int .i64 0, .int .i64 0, .int .i64 0, .int .i64 0, .int .i64 0, .int .i64 0, .int .i64 0, .bool false] 56)).heap.size ≤ w1.heap.size := HC1.out.2.2.size; simp only [World.size_alloc] at h; exact h
                have hfp : χ (wr.heap.size) = 0 := HS.out.hp.fresh (by omega)
                have hfq : χ (wr.heap.size + 1) = 0 := HS.out.hp.fresh (by omega)
                have hgp : W.heap.size ≤ wr.heap.size := by have := HS.out.hp.below.size; omega
                have hgq : W.heap.size ≤ wr.heap.size + 1 := by have := HS.out.hp.below.size; omega
                have hpq : wr.heap.size ≠ wr.heap.size + 1 := by omega
                have hgl : gg < w1.heap.size := by obtain ⟨_, hgb⟩ := HC1.out.1.words; exact hgb.lt
                have hgs : gg = gw ∨ (χ gg = 0 ∧ W.heap.size ≤ gg) := HC1.out.2.1
                have hgp' : gg ≠ wr.heap.size := gg_ne HC1.out.1 (Blk.chg (S := fun _ => False) (w := ((wr.alloc (Obj.cells #[.int .i64 0, .int .i64 0, .int .i64 0, .slice none 0 0, .int .i64 0, .int .i64 0, .int .u64 0, .int .u64 0, .int .i64 0] 62)).alloc (Obj.cells #[.slice none 0 0, .slice none 0 0, .int .i64 0, .int .i64 0, .int .i64 0, .int .i64 0, .int .i64 0, .int .i64 0, .int .i64 0, .bool false] 56)).drew) (Blk.alloc (by have h := blk_new wr 62 #[.int .i64 0, .int .i64 0, .int .i64 0, .slice none 0 0, .int .i64 0, .int .i64 0, .int .u64 0, .int .u64 0, .int .i64 0] _ rfl; (try simp only [World.size_alloc] at h); exact h) (Obj.cells #[.slice none 0 0, .slice none 0 0, .int .i64 0, .int .i64 0, .int .i64 0, .int .i64 0, .int .i64 0, .int .i64 0, .int .i64 0, .bool false] 56)) (chg_of_below _ HC1.out.2.2) (fun h => h)) (by decide)
                have hgq' : gg ≠ wr.heap.size + 1 := gg_ne HC1.out.1 (Blk.chg (S := fun _ => False) (w := ((wr.alloc (Obj.cells #[.int .i64 0, .int .i64 0, .int .i64 0, .slice none 0 0, .int .i64 0, .int .i64 0, .int .u64 0, .int .u64 0, .int .i64 0] 62)).alloc (Obj.cells #[.slice none 0 0, .slice none 0 0, .int .i64 0, .int .i64 0, .int .i64 0, .int .i64 0, .int .i64 0, .int .i64 0, .int .i64 0, .bool false] 56)).drew) (by have h := blk_new (wr.alloc (Obj.cells #[.int .i64 0, .int .i64 0, .int .i64 0, .slice none 0 0, .int .i64 0, .int .i64 0, .int .u64 0, .int .u64 0, .int .i64 0] 62)) 56 #[.slice none 0 0, .slice none 0 0, .int .i64 0, .int .i64 0, .int .i64 0, .int .i64 0, .int .i64 0, .int .i64 0, .int .i64 0, .bool false] _ rfl; (try simp only [World.size_alloc] at h); exact h) (chg_of_below _ HC1.out.2.2) (fun h => h)) (by decide)
                generalize wr.heap.size + 1 = q at bp bqq hfp hfq hgp hgq hpq hgp' hgq' ⊢
                generalize wr.heap.size = p at bp bqq hfp hfq hgp hgq hpq hgp' hgq' ⊢
                have hgbp : gb ≠ p ∧ gb ≠ q := ⟨fun e => by subst e; exact GBN.out hfp, fun e => by subst e; exact GBN.out hfq⟩
                have HL := Lib.hid (And.intro bp (And.intro bqq (And.intro hrl (And.intro hsl (And.intro hgs (And.intro hfp (And.intro hfq (And.intro hgp (And.intro hgq (And.intro hpq (And.intro hgp' (And.intro hgq' hgbp))))))))))))
                have y0 : w1.cell? ⟨p, 0, none⟩ = some (.int .i64 0) := bp.cell 0
                have z0 := bp.free 0
                have y1 : w1.cell? ⟨p, 1, none⟩ = some (.int .i64 0) := bp.cell 1
                have z1 := bp.free 1
                have y2 : w1.cell? ⟨p, 2, none⟩ = some (.int .i64 0) := bp.cell 2
                have z2 := bp.free 2
                have y3 : w1.cell? ⟨p, 3, none⟩ = some (.slice none 0 0) := bp.cell 3
                have z3 := bp.free 3
                have y4 : w1.cell? ⟨p, 4, none⟩ = some (.int .i64 0) := bp.cell 4
                have z4 := bp.free 4
                have y5 : w1.cell? ⟨p, 5, none⟩ = some (.int .i64 0) := bp.cell 5
                have z5 := bp.free 5
                have y6 : w1.cell? ⟨p, 6, none⟩ = some (.int .u64 0) := bp.cell 6
                have z6 := bp.free 6
                have y7 : w1.cell? ⟨p, 7, none⟩ = some (.int .u64 0) := bp.cell 7
                have z7 := bp.free 7
                have y8 : w1.cell? ⟨p, 8, none⟩ = some (.int .i64 0) := bp.cell 8
                have z8 := bp.free 8
                clear bp bqq hrl hsl hgs hfp hfq hgp hgq hpq hgp' hgq' hgbp hgl hwz
                refine wpAnyH_ready (rs := [11]) (by as_aux_lemma => kernel_rfl) (by simp) (AllReadyH.cons rfl (fun K hK => ?_) AllReadyH.nil)
                go_simp
                clear y0 z0 y1 z1 y2 z2 y3 z3 y4 z4 y5 z5 y6 z6 y7 z7 y8 z8
                obtain ⟨bp, hcp⟩ := set9 HL.out.1 (.int .i64 o2.a) (.int .i64 o2.s) (.int .i64 o2.m) (.slice (some ⟨bq, 0, none⟩) o.words.length cq) (.int .i64 o2.pc) (.int .i64 o2.k) (.int .u64 o2.p) (.int .u64 o2.g) (.int .i64 o2.code)
                have bqq := HL.out.2.1.chg hcp (fun e => HL.out.2.2.2.2.2.2.2.2.2.1 e.symm)
                have hrl := HL.out.2.2.1.chg hcp (fun e => HL.out.2.2.2.2.2.2.2.2.2.2.1 e) (fun e => HL.out.2.2.2.2.2.2.2.2.2.2.2.2.1 e)
                have hsl := HL.out.2.2.2.1.free HL.out.2.2.2.2.2.1 HL.out.2.2.2.2.2.2.2.1 hcp
                generalize (((((((((w1.setCell ⟨p, 0, none⟩ (.int .i64 o2.a)).setCell ⟨p, 1, none⟩ (.int .i64 o2.s)).setCell ⟨p, 2, none⟩ (.int .i64 o2.m)).setCell ⟨p, 3, none⟩ (.slice (some ⟨bq, 0, none⟩) o.words.length cq)).setCell ⟨p, 4, none⟩ (.int .i64 o2.pc)).setCell ⟨p, 5, none⟩ (.int .i64 o2.k)).setCell ⟨p, 6, none⟩ (.int .u64 o2.p)).setCell ⟨p, 7, none⟩ (.int .u64 o2.g)).setCell ⟨p, 8, none⟩ (.int .i64 o2.code)) = wm at bp hcp bqq hrl hsl ⊢
                have HM := Lib.hid (And.intro bp (And.intro bqq (And.intro hrl hsl)))
                have y0 : wm.cell? ⟨q, 0, none⟩ = some (.slice none 0 0) := bqq.cell 0
                have z0 := bqq.free 0
                have y1 : wm.cell? ⟨q, 1, none⟩ = some (.slice none 0 0) := bqq.cell 1
                have z1 := bqq.free 1
                have y2 : wm.cell? ⟨q, 2, none⟩ = some (.int .i64 0) := bqq.cell 2
                have z2 := bqq.free 2
                have y3 : wm.cell? ⟨q, 3, none⟩ = some (.int .i64 0) := bqq.cell 3
                have z3 := bqq.free 3
                have y4 : wm.cell? ⟨q, 4, none⟩ = some (.int .i64 0) := bqq.cell 4
                have z4 := bqq.free 4
                have y5 : wm.cell? ⟨q, 5, none⟩ = some (.int .i64 0) := bqq.cell 5
                have z5 := bqq.free 5
                have y6 : wm.cell? ⟨q, 6, none⟩ = some (.int .i64 0) := bqq.cell 6
                have z6 := bqq.free 6
                have y7 : wm.cell? ⟨q, 7, none⟩ = some (.int .i64 0) := bqq.cell 7
                have z7 := bqq.free 7
                have y8 : wm.cell? ⟨q, 8, none⟩ = some (.int .i64 0) := bqq.cell 8
                have z8 := bqq.free 8
                have y9 : wm.cell? ⟨q, 9, none⟩ = some (.bool false) := bqq.cell 9
                have z9 := bqq.free 9
                clear bp bqq hrl hsl hcp
                refine hK.out _ _ (cells28 HM.out.2.2.2 HE.out HX5.out) (fun hH => ?_)
                clear hK hH
                try simp only [Act.put, List.setIfInBounds_toArray, List.set_cons_zero, List.set_cons_succ]
                refine wpAnyH_ready (rs := [12]) (by as_aux_lemma => kernel_rfl) (by simp) (AllReadyH.cons rfl (fun K hK => ?_) AllReadyH.nil)
                go_simp
                clear y0 z0 y1 z1 y2 z2 y3 z3 y4 z4 y5 z5 y6 z6 y7 z7 y8 z8 y9 z9
                obtain ⟨bqq, hcq⟩ := set10 HM.out.2.1 (.slice (some ⟨gg, 0, none⟩) ws2.length cg) (.slice (some ⟨gb, 0, none⟩) ws2.length ws2.length) (.int .i64 e0) (.int .i64 e1) (.int .i64 e2) (.int .i64 e3) (.int .i64 e4) (.int .i64 e5) (.int .i64 (-1)) (.bool false)
                have bp := HM.out.1.chg hcq (fun e => HL.out.2.2.2.2.2.2.2.2.2.1 e)
                have hrl := HM.out.2.2.1.chg hcq (fun e => HL.out.2.2.2.2.2.2.2.2.2.2.2.1 e) (fun e => HL.out.2.2.2.2.2.2.2.2.2.2.2.2.2 e)
                have hsl := HM.out.2.2.2.free HL.out.2.2.2.2.2.2.1 HL.out.2.2.2.2.2.2.2.2.1 hcq
                generalize ((((((((((wm.setCell ⟨q, 0, none⟩ (.slice (some ⟨gg, 0, none⟩) ws2.length cg)).setCell ⟨q, 1, none⟩ (.slice (some ⟨gb, 0, none⟩) ws2.length ws2.length)).setCell ⟨q, 2, none⟩ (.int .i64 e0)).setCell ⟨q, 3, none⟩ (.int .i64 e1)).setCell ⟨q, 4, none⟩ (.int .i64 e2)).setCell ⟨q, 5, none⟩ (.int .i64 e3)).setCell ⟨q, 6, none⟩ (.int .i64 e4)).setCell ⟨q, 7, none⟩ (.int .i64 e5)).setCell ⟨q, 8, none⟩ (.int .i64 (-1))).setCell ⟨q, 9, none⟩ (.bool false)) = wn at bp hcq bqq hrl hsl ⊢
                have HN := Lib.hid (And.intro bp (And.intro bqq (And.intro hrl hsl)))
                clear bp bqq hrl hsl hcq
                refine hK.out _ _ (cells28 HN.out.2.2.2 HE.out HX5.out) (fun hH => ?_)
                clear hK hH
                try simp only [Act.put, List.setIfInBounds_toArray, List.set_cons_zero, List.set_cons_succ]
                refine wpAnyH_done (by as_aux_lemma => kernel_rfl) ?_ _
                go_wp2
                go_meet
                case rel => exact ⟨p, q, gg, cg, e0, e1, e2, e3, e4, e5, rfl, rfl, Lib.hid ⟨HN.out.1, HN.out.2.1, HN.out.2.2.1, HL.out.2.2.2.2.1, HL.out.2.2.2.2.2.1, HL.out.2.2.2.2.2.2.1, HL.out.2.2.2.2.2.2.2.1, HL.out.2.2.2.2.2.2.2.2.1, HL.out.2.2.2.2.2.2.2.2.2.1, HL.out.2.2.2.2.2.2.2.2.2.2.1, HL.out.2.2.2.2.2.2.2.2.2.2.2.1, HN.out.2.2.2⟩⟩
            · go_simp
              have HSN := Lib.hid ((Lib.hid HS.out.drew).out.alloc (Obj.cells #[.slice none 0 0, .slice none 0 0, .int .i64 0, .int .i64 0, .int .i64 0, .int .i64 0, .int .i64 0, .int .i64 0, .int .i64 0, .bool false] 56))
              refine hK.out _ _ (cells28 HSN.out HE.out HX5.out) (fun hH => ?_)
              clear hK hH
              try simp only [Act.put, List.setIfInBounds_toArray, List.set_cons_zero, List.set_cons_succ]
              refine wpAnyH_ready (rs := [5, 9]) (by as_aux_lemma => kernel_rfl) (by simp) (AllReadyH.cons rfl (fun K hK => ?_) (AllReadyH.cons rfl (fun K hK => ?_) (AllReadyH.nil)))
              · go_simp
                have HSC := HSN
                refine (refop_calls gw cx gb d0 d1 d2 d3 d4 d5 ws o (some ⟨bq, 0, none⟩) o.words.length cq _ (HSC.out.ref.at HSC.out.hp) HNO.out rfl HCO.out (HWQ.out _ HSC.out)).mono ?_; rintro e w1 hto
                rw [HO2.out.1, HO2.out.2] at hto
                obtain ⟨gg, cg, e0, e1, e2, e3, e4, e5, he, hr1, hg1, hb1⟩ := hto
                obtain rfl : e = .returned (.tuple #[.agg #[.int .i64 o2.a, .int .i64 o2.s, .int .i64 o2.m, .slice (some ⟨bq, 0, none⟩) o.words.length cq, .int .i64 o2.pc, .int .i64 o2.k, .int .u64 o2.p, .int .u64 o2.g, .int .i64 o2.code], .agg #[.slice (some ⟨gg, 0, none⟩) ws2.length cg, .slice (some ⟨gb, 0, none⟩) ws2.length ws2.length, .int .i64 e0, .int .i64 e1, .int .i64 e2, .int .i64 e3, .int .i64 e4, .int .i64 e5, .int .i64 (-1), .bool false]]) := he
                have HC1 := Lib.hid (And.intro hr1 (And.intro (show gg = gw ∨ (χ gg = 0 ∧ W.heap.size ≤ gg) from hg1.imp id (fun h => ⟨HSC.out.hp.fresh h, by have := HSC.out.hp.below.size; omega⟩)) hb1))
                clear hr1 hg1 hb1
                have HSN := Lib.hid (HSC.out.keep HC1.out.2.2)
                refine hK.out _ _ (cells28 HSN.out HE.out HX5.out) (fun hH => ?_)
                clear hK hH
                try simp only [Act.put, List.setIfInBounds_toArray, List.set_cons_zero, List.set_cons_succ]
                refine take_first 6 (some 170) ?_ rfl rfl (by as_aux_lemma => kernel_rfl) (by as_aux_lemma => kernel_rfl) (by as_aux_lemma => kernel_rfl) (fun _ _ _ h => h) rfl ?hy (cells28 HSN.out HE.out HX5.out) ?_
                case hy => (intro w0 hS0; (try dsimp only at hS0); (try go_simp); try with_reducible rfl)
                try simp only [Act.put, List.setIfInBounds_toArray, List.set_cons_zero, List.set_cons_succ]
                refine take_first 7 (some 177) ?_ rfl rfl (by as_aux_lemma => kernel_rfl) (by as_aux_lemma => kernel_rfl) (by as_aux_lemma => kernel_rfl) (fun _ _ _ h => h) rfl ?hy (cells28 HSN.out HE.out HX5.out) ?_
                case hy => (intro w0 hS0; (try dsimp only at hS0); (try go_simp); try with_reducible rfl)
                try simp only [Act.put, List.setIfInBounds_toArray, List.set_cons_zero, List.set_cons_succ]
                refine take_first 8 (some 178) ?_ rfl rfl (by as_aux_lemma => kernel_rfl) (by as_aux_lemma => kernel_rfl) (by as_aux_lemma => kernel_rfl) (fun _ _ _ h => h) rfl ?hy (cells28 HSN.out HE.out HX5.out) ?_
                case hy => (intro w0 hS0; (try dsimp only at hS0); (try go_simp); try with_reducible rfl)
                try simp only [Act.put, List.setIfInBounds_toArray, List.set_cons_zero, List.set_cons_succ]
                refine wpAnyH_ready (rs := [9]) (by as_aux_lemma => kernel_rfl) (by simp) (AllReadyH.cons rfl (fun K hK => ?_) (AllReadyH.nil))
                go_simp
                have HSN := Lib.hid (HSN.out.alloc (Obj.cells #[.int .i64 0, .int .i64 0, .int .i64 0, .slice none 0 0, .int .i64 0, .int .i64 0, .int .u64 0, .int .u64 0, .int .i64 0] 62))
                refine hK.out _ _ (cells28 HSN.out HE.out HX5.out) (fun hH => ?_)
                clear hK hH
                try simp only [Act.put, List.setIfInBounds_toArray, List.set_cons_zero, List.set_cons_succ]
                have bp : Blk (w1.alloc (Obj.cells #[.int .i64 0, .int .i64 0, .int .i64 0, .slice none 0 0, .int .i64 0, .int .i64 0, .int .u64 0, .int .u64 0, .int .i64 0] 62)) (w1.heap.size) 62 [.int .i64 0, .int .i64 0, .int .i64 0, .slice none 0 0, .int .i64 0, .int .i64 0, .int .u64 0, .int .u64 0, .int .i64 0] := (by have h := blk_new w1 62 #[.int .i64 0, .int .i64 0, .int .i64 0, .slice none 0 0, .int .i64 0, .int .i64 0, .int .u64 0, .int .u64 0, .int .i64 0] _ rfl; (try simp only [World.size_alloc] at h); exact h)
                have bqq : Blk (w1.alloc (Obj.cells #[.int .i64 0, .int .i64 0, .int .i64 0, .slice none 0 0, .int .i64 0, .int .i64 0, .int .u64 0, .int .u64 0, .int .i64 0] 62)) (wr.heap.size) 56 [.slice none 0 0, .slice none 0 0, .int .i64 0, .int .i64 0, .int .i64 0, .int .i64 0, .int .i64 0, .int .i64 0, .int .i64 0, .bool false] := (Blk.alloc (Blk.chg (S := fun _ => False) (w := (wr.alloc (Obj.cells #[.slice none 0 0, .slice none 0 0, .int .i64 0, .int .i64 0, .int .i64 0, .int .i64 0, .int .i64 0, .int .i64 0, .int .i64 0, .bool false] 56)).drew) (by have h := blk_new wr 56 #[.slice none 0 0, .slice none 0 0, .int .i64 0, .int .i64 0, .int .i64 0, .int .i64 0, .int .i64 0, .int .i64 0, .int .i64 0, .bool false] _ rfl; (try simp only [World.size_alloc] at h); exact h) (chg_of_below _ HC1.out.2.2) (fun h => h)) (Obj.cells #[.int .i64 0, .int .i64 0, .int .i64 0, .slice none 0 0, .int .i64 0, .int .i64 0, .int .u64 0, .int .u64 0, .int .i64 0] 62))
                have hrl : RefAt (w1.alloc (Obj.cells #[.int .i64 0, .int .i64 0, .int .i64 0, .slice none 0 0, .int .i64 0, .int .i64 0, .int .u64 0, .int .u64 0, .int .i64 0] 62)) gg gb ws2 := HC1.out.1.below (bnew (Below.refl _ _) (Obj.cells #[.int .i64 0, .int .i64 0, .int .i64 0, .slice none 0 0, .int .i64 0, .int .i64 0, .int .u64 0, .int .u64 0, .int .i64 0] 62))
                have hsl : St W (w1.alloc (Obj.cells #[.int .i64 0, .int .i64 0, .int .i64 0, .slice none 0 0, .int .i64 0, .int .i64 0, .int .u64 0, .int .u64 0, .int .i64 0] 62)) χ m W.heap.size s ba b bw bb bx gw gb (.slice (some ⟨g7, 0, none⟩) n' cap7) (.slice (some ⟨g8, 0, none⟩) n' cap8) ws ws (es.map Ent.bo) es := HSN.out
                have hwz : wr.heap.size + 1 ≤ w1.heap.size := by have h : (wr.alloc (Obj.cells #[.slice none 0 0, .slice none 0 0, .int .i64 0, .int .i64 0, .int .i64 0, .int .i64 0, .int .i64 0, .int .i64 0, .int .i64 0, .bool false] 56)).heap.size ≤ w1.heap.size := HC1.out.2.2.size; simp only [World.size_alloc] at h; exact h
                have hfp : χ (w1.heap.size) = 0 := HS.out.hp.fresh (by omega)
                have hfq : χ (wr.heap.size) = 0 := HS.out.hp.fresh (by omega)
                have hgp : W.heap.size ≤ w1.heap.size := by have := HS.out.hp.below.size; omega
                have hgq : W.heap.size ≤ wr.heap.size := by have := HS.out.hp.below.size; omega
                have hpq : w1.heap.size ≠ wr.heap.size := by omega
                have hgl : gg < w1.heap.size := by obtain ⟨_, hgb⟩ := HC1.out.1.words; exact hgb.lt
                have hgs : gg = gw ∨ (χ gg = 0 ∧ W.heap.size ≤ gg) := HC1.out.2.1
                have hgp' : gg ≠ w1.heap.size := by omega
                have hgq' : gg ≠ wr.heap.size := gg_ne HC1.out.1 (Blk.chg (S := fun _ => False) (w := (wr.alloc (Obj.cells #[.slice none 0 0, .slice none 0 0, .int .i64 0, .int .i64 0, .int .i64 0, .int .i64 0, .int .i64 0, .int .i64 0, .int .i64 0, .bool false] 56)).drew) (by have h := blk_new wr 56 #[.slice none 0 0, .slice none 0 0, .int .i64 0, .int .i64 0, .int .i64 0, .int .i64 0, .int .i64 0, .int .i64 0, .int .i64 0, .bool false] _ rfl; (try simp only [World.size_alloc] at h); exact h) (chg_of_below _ HC1.out.2.2) (fun h => h)) (by decide)
                generalize w1.heap.size = p at bp bqq hfp hfq hgp hgq hpq hgp' hgq' ⊢
                generalize wr.heap.size = q at bp bqq hfp hfq hgp hgq hpq hgp' hgq' ⊢
                generalize (w1.alloc (Obj.cells #[.int .i64 0, .int .i64 0, .int .i64 0, .slice none 0 0, .int .i64 0, .int .i64 0, .int .u64 0, .int .u64 0, .int .i64 0] 62)) = wl at bp bqq hrl hsl ⊢
                have hgbp : gb ≠ p ∧ gb ≠ q := ⟨fun e => by subst e; exact GBN.out hfp, fun e => by subst e; exact GBN.out hfq⟩
                have HL := Lib.hid (And.intro bp (And.intro bqq (And.intro hrl (And.intro hsl (And.intro hgs (And.intro hfp (And.intro hfq (And.intro hgp (And.intro hgq (And.intro hpq (And.intro hgp' (And.intro hgq' hgbp))))))))))))
                have y0 : wl.cell? ⟨p, 0, none⟩ = some (.int .i64 0) := bp.cell 0
                have z0 := bp.free 0
                have y1 : wl.cell? ⟨p, 1, none⟩ = some (.int .i64 0) := bp.cell 1
                have z1 := bp.free 1
                have y2 : wl.cell? ⟨p, 2, none⟩ = some (.int .i64 0) := bp.cell 2
                have z2 := bp.free 2
                have y3 : wl.cell? ⟨p, 3, none⟩ = some (.slice none 0 0) := bp.cell 3
                have z3 := bp.free 3
                have y4 : wl.cell? ⟨p, 4, none⟩ = some (.int .i64 0) := bp.cell 4
                have z4 := bp.free 4
                have y5 : wl.cell? ⟨p, 5, none⟩ = some (.int .i64 0) := bp.cell 5
                have z5 := bp.free 5
                have y6 : wl.cell? ⟨p, 6, none⟩ = some (.int .u64 0) := bp.cell 6
                have z6 := bp.free 6
                have y7 : wl.cell? ⟨p, 7, none⟩ = some (.int .u64 0) := bp.cell 7
                have z7 := bp.free 7
                have y8 : wl.cell? ⟨p, 8, none⟩ = some (.int .i64 0) := bp.cell 8
                have z8 := bp.free 8
                clear bp bqq hrl hsl hgs hfp hfq hgp hgq hpq hgp' hgq' hgbp hgl hwz
                refine wpAnyH_ready (rs := [11]) (by as_aux_lemma => kernel_rfl) (by simp) (AllReadyH.cons rfl (fun K hK => ?_) AllReadyH.nil)
                go_simp
                clear y0 z0 y1 z1 y2 z2 y3 z3 y4 z4 y5 z5 y6 z6 y7 z7 y8 z8
                obtain ⟨bp, hcp⟩ := set9 HL.out.1 (.int .i64 o2.a) (.int .i64 o2.s) (.int .i64 o2.m) (.slice (some ⟨bq, 0, none⟩) o.words.length cq) (.int .i64 o2.pc) (.int .i64 o2.k) (.int .u64 o2.p) (.int .u64 o2.g) (.int .i64 o2.code)
                have bqq := HL.out.2.1.chg hcp (fun e => HL.out.2.2.2.2.2.2.2.2.2.1 e.symm)
                have hrl := HL.out.2.2.1.chg hcp (fun e => HL.out.2.2.2.2.2.2.2.2.2.2.1 e) (fun e => HL.out.2.2.2.2.2.2.2.2.2.2.2.2.1 e)
                have hsl := HL.out.2.2.2.1.free HL.out.2.2.2.2.2.1 HL.out.2.2.2.2.2.2.2.1 hcp
                generalize (((((((((wl.setCell ⟨p, 0, none⟩ (.int .i64 o2.a)).setCell ⟨p, 1, none⟩ (.int .i64 o2.s)).setCell ⟨p, 2, none⟩ (.int .i64 o2.m)).setCell ⟨p, 3, none⟩ (.slice (some ⟨bq, 0, none⟩) o.words.length cq)).setCell ⟨p, 4, none⟩ (.int .i64 o2.pc)).setCell ⟨p, 5, none⟩ (.int .i64 o2.k)).setCell ⟨p, 6, none⟩ (.int .u64 o2.p)).setCell ⟨p, 7, none⟩ (.int .u64 o2.g)).setCell ⟨p, 8, none⟩ (.int .i64 o2.code)) = wm at bp hcp bqq hrl hsl ⊢
                have HM := Lib.hid (And.intro bp (And.intro bqq (And.intro hrl hsl)))
                have y0 : wm.cell? ⟨q, 0, none⟩ = some (.slice none 0 0) := bqq.cell 0
                have z0 := bqq.free 0
                have y1 : wm.cell? ⟨q, 1, none⟩ = some (.slice none 0 0) := bqq.cell 1
                have z1 := bqq.free 1
                have y2 : wm.cell? ⟨q, 2, none⟩ = some (.int .i64 0) := bqq.cell 2
                have z2 := bqq.free 2
                have y3 : wm.cell? ⟨q, 3, none⟩ = some (.int .i64 0) := bqq.cell 3
                have z3 := bqq.free 3
                have y4 : wm.cell? ⟨q, 4, none⟩ = some (.int .i64 0) := bqq.cell 4
                have z4 := bqq.free 4
                have y5 : wm.cell? ⟨q, 5, none⟩ = some (.int .i64 0) := bqq.cell 5
                have z5 := bqq.free 5
                have y6 : wm.cell? ⟨q, 6, none⟩ = some (.int .i64 0) := bqq.cell 6
                have z6 := bqq.free 6
                have y7 : wm.cell? ⟨q, 7, none⟩ = some (.int .i64 0) := bqq.cell 7
                have z7 := bqq.free 7
                have y8 : wm.cell? ⟨q, 8, none⟩ = some (.int .i64 0) := bqq.cell 8
                have z8 := bqq.free 8
                have y9 : wm.cell? ⟨q, 9, none⟩ = some (.bool false) := bqq.cell 9
                have z9 := bqq.free 9
                clear bp bqq hrl hsl hcp
                refine hK.out _ _ (cells28 HM.out.2.2.2 HE.out HX5.out) (fun hH => ?_)
                clear hK hH
                try simp only [Act.put, List.setIfInBounds_toArray, List.set_cons_zero, List.set_cons_succ]
                refine wpAnyH_ready (rs := [12]) (by as_aux_lemma => kernel_rfl) (by simp) (AllReadyH.cons rfl (fun K hK => ?_) AllReadyH.nil)
                go_simp
                clear y0 z0 y1 z1 y2 z2 y3 z3 y4 z4 y5 z5 y6 z6 y7 z7 y8 z8 y9 z9
                obtain ⟨bqq, hcq⟩ := set10 HM.out.2.1 (.slice (some ⟨gg, 0, none⟩) ws2.length cg) (.slice (some ⟨gb, 0, none⟩) ws2.length ws2.length) (.int .i64 e0) (.int .i64 e1) (.int .i64 e2) (.int .i64 e3) (.int .i64 e4) (.int .i64 e5) (.int .i64 (-1)) (.bool false)
                have bp := HM.out.1.chg hcq (fun e => HL.out.2.2.2.2.2.2.2.2.2.1 e)
                have hrl := HM.out.2.2.1.chg hcq (fun e => HL.out.2.2.2.2.2.2.2.2.2.2.2.1 e) (fun e => HL.out.2.2.2.2.2.2.2.2.2.2.2.2.2 e)
                have hsl := HM.out.2.2.2.free HL.out.2.2.2.2.2.2.1 HL.out.2.2.2.2.2.2.2.2.1 hcq
                generalize ((((((((((wm.setCell ⟨q, 0, none⟩ (.slice (some ⟨gg, 0, none⟩) ws2.length cg)).setCell ⟨q, 1, none⟩ (.slice (some ⟨gb, 0, none⟩) ws2.length ws2.length)).setCell ⟨q, 2, none⟩ (.int .i64 e0)).setCell ⟨q, 3, none⟩ (.int .i64 e1)).setCell ⟨q, 4, none⟩ (.int .i64 e2)).setCell ⟨q, 5, none⟩ (.int .i64 e3)).setCell ⟨q, 6, none⟩ (.int .i64 e4)).setCell ⟨q, 7, none⟩ (.int .i64 e5)).setCell ⟨q, 8, none⟩ (.int .i64 (-1))).setCell ⟨q, 9, none⟩ (.bool false)) = wn at bp hcq bqq hrl hsl ⊢
                have HN := Lib.hid (And.intro bp (And.intro bqq (And.intro hrl hsl)))
                clear bp bqq hrl hsl hcq
                refine hK.out _ _ (cells28 HN.out.2.2.2 HE.out HX5.out) (fun hH => ?_)
                clear hK hH
                try simp only [Act.put, List.setIfInBounds_toArray, List.set_cons_zero, List.set_cons_succ]
                refine wpAnyH_done (by as_aux_lemma => kernel_rfl) ?_ _
                go_wp2
                go_meet
                case rel => exact ⟨p, q, gg, cg, e0, e1, e2, e3, e4, e5, rfl, rfl, Lib.hid ⟨HN.out.1, HN.out.2.1, HN.out.2.2.1, HL.out.2.2.2.2.1, HL.out.2.2.2.2.2.1, HL.out.2.2.2.2.2.2.1, HL.out.2.2.2.2.2.2.2.1, HL.out.2.2.2.2.2.2.2.2.1, HL.out.2.2.2.2.2.2.2.2.2.1, HL.out.2.2.2.2.2.2.2.2.2.2.1, HL.out.2.2.2.2.2.2.2.2.2.2.2.1, HN.out.2.2.2⟩⟩
              · go_simp
                have HSN := Lib.hid (HSN.out.alloc (Obj.cells #[.int .i64 0, .int .i64 0, .int .i64 0, .slice none 0 0, .int .i64 0, .int .i64 0, .int .u64 0, .int .u64 0, .int .i64 0] 62))
                refine hK.out _ _ (cells28 HSN.out HE.out HX5.out) (fun hH => ?_)
                clear hK hH
                try simp only [Act.put, List.setIfInBounds_toArray, List.set_cons_zero, List.set_cons_succ]
                refine wpAnyH_ready (rs := [5]) (by as_aux_lemma => kernel_rfl) (by simp) (AllReadyH.cons rfl (fun K hK => ?_) (AllReadyH.nil))
                go_simp
                have HSC := HSN
                refine (refop_calls gw cx gb d0 d1 d2 d3 d4 d5 ws o (some ⟨bq, 0, none⟩) o.words.length cq _ (HSC.out.ref.at HSC.out.hp) HNO.out rfl HCO.out (HWQ.out _ HSC.out)).mono ?_; rintro e w1 hto
                rw [HO2.out.1, HO2.out.2] at hto
                obtain ⟨gg, cg, e0, e1, e2, e3, e4, e5, he, hr1, hg1, hb1⟩ := hto
                obtain rfl : e = .returned (.tuple #[.agg #[.int .i64 o2.a, .int .i64 o2.s, .int .i64 o2.m, .slice (some ⟨bq, 0, none⟩) o.words.length cq, .int .i64 o2.pc, .int .i64 o2.k, .int .u64 o2.p, .int .u64 o2.g, .int .i64 o2.code], .agg #[.slice (some ⟨gg, 0, none⟩) ws2.length cg, .slice (some ⟨gb, 0, none⟩) ws2.length ws2.length, .int .i64 e0, .int .i64 e1, .int .i64 e2, .int .i64 e3, .int .i64 e4, .int .i64 e5, .int .i64 (-1), .bool false]]) := he
                have HC1 := Lib.hid (And.intro hr1 (And.intro (show gg = gw ∨ (χ gg = 0 ∧ W.heap.size ≤ gg) from hg1.imp id (fun h => ⟨HSC.out.hp.fresh h, by have := HSC.out.hp.below.size; omega⟩)) hb1))
                clear hr1 hg1 hb1
                have HSN := Lib.hid (HSC.out.keep HC1.out.2.2)
                refine hK.out _ _ (cells28 HSN.out HE.out HX5.out) (fun hH => ?_)
                clear hK hH
                try simp only [Act.put, List.setIfInBounds_toArray, List.set_cons_zero, List.set_cons_succ]
                refine take_first 6 (some 170) ?_ rfl rfl (by as_aux_lemma => kernel_rfl) (by as_aux_lemma => kernel_rfl) (by as_aux_lemma => kernel_rfl) (fun _ _ _ h => h) rfl ?hy (cells28 HSN.out HE.out HX5.out) ?_
                case hy => (intro w0 hS0; (try dsimp only at hS0); (try go_simp); try with_reducible rfl)
                try simp only [Act.put, List.setIfInBounds_toArray, List.set_cons_zero, List.set_cons_succ]
                refine take_first 7 (some 177) ?_ rfl rfl (by as_aux_lemma => kernel_rfl) (by as_aux_lemma => kernel_rfl) (by as_aux_lemma => kernel_rfl) (fun _ _ _ h => h) rfl ?hy (cells28 HSN.out HE.out HX5.out) ?_
                case hy => (intro w0 hS0; (try dsimp only at hS0); (try go_simp); try with_reducible rfl)
                try simp only [Act.put, List.setIfInBounds_toArray, List.set_cons_zero, List.set_cons_succ]
                refine take_first 8 (some 178) ?_ rfl rfl (by as_aux_lemma => kernel_rfl) (by as_aux_lemma => kernel_rfl) (by as_aux_lemma => kernel_rfl) (fun _ _ _ h => h) rfl ?hy (cells28 HSN.out HE.out HX5.out) ?_
                case hy => (intro w0 hS0; (try dsimp only at hS0); (try go_simp); try with_reducible rfl)
                try simp only [Act.put, List.setIfInBounds_toArray, List.set_cons_zero, List.set_cons_succ]
                have bp : Blk w1 (wr.heap.size + 1) 62 [.int .i64 0, .int .i64 0, .int .i64 0, .slice none 0 0, .int .i64 0, .int .i64 0, .int .u64 0, .int .u64 0, .int .i64 0] := (Blk.chg (S := fun _ => False) (w := ((wr.alloc (Obj.cells #[.slice none 0 0, .slice none 0 0, .int .i64 0, .int .i64 0, .int .i64 0, .int .i64 0, .int .i64 0, .int .i64 0, .int .i64 0, .bool false] 56)).alloc (Obj.cells #[.int .i64 0, .int .i64 0, .int .i64 0, .slice none 0 0, .int .i64 0, .int .i64 0, .int .u64 0, .int .u64 0, .int .i64 0] 62)).drew) (by have h := blk_new (wr.alloc (Obj.cells #[.slice none 0 0, .slice none 0 0, .int .i64 0, .int .i64 0, .int .i64 0, .int .i64 0, .int .i64 0, .int .i64 0, .int .i64 0, .bool false] 56)) 62 #[.int .i64 0, .int .i64 0, .int .i64 0, .slice none 0 0, .int .i64 0, .int .i64 0, .int .u64 0, .int .u64 0, .int .i64 0] _ rfl; (try simp only [World.size_alloc] at h); exact h) (chg_of_below _ HC1.out.2.2) (fun h => h))
                have bqq : Blk w1 (wr.heap.size) 56 [.slice none 0 0, .slice none 0 0, .int .i64 0, .int .i64 0, .int .i64 0, .int .i64 0, .int .i64 0, .int .i64 0, .int .i64 0, .bool false] := (Blk.chg (S := fun _ => False) (w := ((wr.alloc (Obj.cells #[.slice none 0 0, .slice none 0 0, .int .i64 0, .int .i64 0, .int .i64 0, .int .i64 0, .int .i64 0, .int .i64 0, .int .i64 0, .bool false] 56)).alloc (Obj.cells #[.int .i64 0, .int .i64 0, .int .i64 0, .slice none 0 0, .int .i64 0, .int .i64 0, .int .u64 0, .int .u64 0, .int .i64 0] 62)).drew) (Blk.alloc (by have h := blk_new wr 56 #[.slice none 0 0, .slice none 0 0, .int .i64 0, .int .i64 0, .int .i64 0, .int .i64 0, .int .i64 0, .int .i64 0, .int .i64 0, .bool false] _ rfl; (try simp only [World.size_alloc] at h); exact h) (Obj.cells #[.int .i64 0, .int .i64 0, .int .i64 0, .slice none 0 0, .int .i64 0, .int .i64 0, .int .u64 0, .int .u64 0, .int .i64 0] 62)) (chg_of_below _ HC1.out.2.2) (fun h => h))
                have hrl : RefAt w1 gg gb ws2 := HC1.out.1.below (Below.refl _ _)
                have hsl : St W w1 χ m W.heap.size s ba b bw bb bx gw gb (.slice (some ⟨g7, 0, none⟩) n' cap7) (.slice (some ⟨g8, 0, none⟩) n' cap8) ws ws (es.map Ent.bo) es := HSN.out
                have hwz : wr.heap.size + 1 + 1 ≤ w1.heap.size := by have h : ((wr.alloc (Obj.cells #[.slice none 0 0, .slice none 0 0, .int .i64 0, .int .i64 0, .int .i64 0, .int .i64 0, .int .i64 0, .int .i64 0, .int .i64 0, .bool false] 56)).alloc (Obj.cells #[.int .i64 0, .int .i64 0, .int .i64 0, .slice none 0 0, .int .i64 0, .int .i64 0, .int .u64 0, .int .u64 0, .int .i64 0] 62)).heap.size ≤ w1.heap.size := HC1.out.2.2.size; simp only [World.size_alloc] at h; exact h
                have hfp : χ (wr.heap.size + 1) = 0 := HS.out.hp.fresh (by omega)
                have hfq : χ (wr.heap.size) = 0 := HS.out.hp.fresh (by omega)
                have hgp : W.heap.size ≤ wr.heap.size + 1 := by have := HS.out.hp.below.size; omega
                have hgq : W.heap.size ≤ wr.heap.size := by have := HS.out.hp.below.size; omega
                have hpq : wr.heap.size + 1 ≠ wr.heap.size := by omega
                have hgl : gg < w1.heap.size := by obtain ⟨_, hgb⟩ := HC1.out.1.words; exact hgb.lt
                have hgs : gg = gw ∨ (χ gg = 0 ∧ W.heap.size ≤ gg) := HC1.out.2.1
                have hgp' : gg ≠ wr.heap.size + 1 := gg_ne HC1.out.1 (Blk.chg (S := fun _ => False) (w := ((wr.alloc (Obj.cells #[.slice none 0 0, .slice none 0 0, .int .i64 0, .int .i64 0, .int .i64 0, .int .i64 0, .int .i64 0, .int .i64 0, .int .i64 0, .bool false] 56)).alloc (Obj.cells #[.int .i64 0, .int .i64 0, .int .i64 0, .slice none 0 0, .int .i64 0, .int .i64 0, .int .u64 0, .int .u64 0, .int .i64 0] 62)).drew) (by have h := blk_new (wr.alloc (Obj.cells #[.slice none 0 0, .slice none 0 0, .int .i64 0, .int .i64 0, .int .i64 0, .int .i64 0, .int .i64 0, .int .i64 0, .int .i64 0, .bool false] 56)) 62 #[.int .i64 0, .int .i64 0, .int .i64 0, .slice none 0 0, .int .i64 0, .int .i64 0, .int .u64 0, .int .u64 0, .int .i64 0] _ rfl; (try simp only [World.size_alloc] at h); exact h) (chg_of_below _ HC1.out.2.2) (fun h => h)) (by decide)
                have hgq' : gg ≠ wr.heap.size := gg_ne HC1.out.1 (Blk.chg (S := fun _ => False) (w := ((wr.alloc (Obj.cells #[.slice none 0 0, .slice none 0 0, .int .i64 0, .int .i64 0, .int .i64 0, .int .i64 0, .int .i64 0, .int .i64 0, .int .i64 0, .bool false] 56)).alloc (Obj.cells #[.int .i64 0, .int .i64 0, .int .i64 0, .slice none 0 0, .int .i64 0, .int .i64 0, .int .u64 0, .int .u64 0, .int .i64 0] 62)).drew) (Blk.alloc (by have h := blk_new wr 56 #[.slice none 0 0, .slice none 0 0, .int .i64 0, .int .i64 0, .int .i64 0, .int .i64 0, .int .i64 0, .int .i64 0, .int .i64 0, .bool false] _ rfl; (try simp only [World.size_alloc] at h); exact h) (Obj.cells #[.int .i64 0, .int .i64 0, .int .i64 0, .slice none 0 0, .int .i64 0, .int .i64 0, .int .u64 0, .int .u64 0, .int .i64 0] 62)) (chg_of_below _ HC1.out.2.2) (fun h => h)) (by decide)
                generalize wr.heap.size + 1 = p at bp bqq hfp hfq hgp hgq hpq hgp' hgq' ⊢
                generalize wr.heap.size = q at bp bqq hfp hfq hgp hgq hpq hgp' hgq' ⊢
                have hgbp : gb ≠ p ∧ gb ≠ q := ⟨fun e => by subst e; exact GBN.out hfp, fun e => by subst e; exact GBN.out hfq⟩
                have HL := Lib.hid (And.intro bp (And.intro bqq (And.intro hrl (And.intro hsl (And.intro hgs (And.intro hfp (And.intro hfq (And.intro hgp (And.intro hgq (And.intro hpq (And.intro hgp' (And.intro hgq' hgbp))))))))))))
                have y0 : w1.cell? ⟨p, 0, none⟩ = some (.int .i64 0) := bp.cell 0
                have z0 := bp.free 0
                have y1 : w1.cell? ⟨p, 1, none⟩ = some (.int .i64 0) := bp.cell 1
                have z1 := bp.free 1
                have y2 : w1.cell? ⟨p, 2, none⟩ = some (.int .i64 0) := bp.cell 2
                have z2 := bp.free 2
                have y3 : w1.cell? ⟨p, 3, none⟩ = some (.slice none 0 0) := bp.cell 3
                have z3 := bp.free 3
                have y4 : w1.cell? ⟨p, 4, none⟩ = some (.int .i64 0) := bp.cell 4
                have z4 := bp.free 4
                have y5 : w1.cell? ⟨p, 5, none⟩ = some (.int .i64 0) := bp.cell 5
                have z5 := bp.free 5
                have y6 : w1.cell? ⟨p, 6, none⟩ = some (.int .u64 0) := bp.cell 6
                have z6 := bp.free 6
                have y7 : w1.cell? ⟨p, 7, none⟩ = some (.int .u64 0) := bp.cell 7
                have z7 := bp.free 7
                have y8 : w1.cell? ⟨p, 8, none⟩ = some (.int .i64 0) := bp.cell 8
                have z8 := bp.free 8
                clear bp bqq hrl hsl hgs hfp hfq hgp hgq hpq hgp' hgq' hgbp hgl hwz
                refine wpAnyH_ready (rs := [11]) (by as_aux_lemma => kernel_rfl) (by simp) (AllReadyH.cons rfl (fun K hK => ?_) AllReadyH.nil)
                go_simp
                clear y0 z0 y1 z1 y2 z2 y3 z3 y4 z4 y5 z5 y6 z6 y7 z7 y8 z8
                obtain ⟨bp, hcp⟩ := set9 HL.out.1 (.int .i64 o2.a) (.int .i64 o2.s) (.int .i64 o2.m) (.slice (some ⟨bq, 0, none⟩) o.words.length cq) (.int .i64 o2.pc) (.int .i64 o2.k) (.int .u64 o2.p) (.int .u64 o2.g) (.int .i64 o2.code)
                have bqq := HL.out.2.1.chg hcp (fun e => HL.out.2.2.2.2.2.2.2.2.2.1 e.symm)
                have hrl := HL.out.2.2.1.chg hcp (fun e => HL.out.2.2.2.2.2.2.2.2.2.2.1 e) (fun e => HL.out.2.2.2.2.2.2.2.2.2.2.2.2.1 e)
                have hsl := HL.out.2.2.2.1.free HL.out.2.2.2.2.2.1 HL.out.2.2.2.2.2.2.2.1 hcp
                generalize (((((((((w1.setCell ⟨p, 0, none⟩ (.int .i64 o2.a)).setCell ⟨p, 1, none⟩ (.int .i64 o2.s)).setCell ⟨p, 2, none⟩ (.int .i64 o2.m)).setCell ⟨p, 3, none⟩ (.slice (some ⟨bq, 0, none⟩) o.words.length cq)).setCell ⟨p, 4, none⟩ (.int .i64 o2.pc)).setCell ⟨p, 5, none⟩ (.int .i64 o2.k)).setCell ⟨p, 6, none⟩ (.int .u64 o2.p)).setCell ⟨p, 7, none⟩ (.int .u64 o2.g)).setCell ⟨p, 8, none⟩ (.int .i64 o2.code)) = wm at bp hcp bqq hrl hsl ⊢
                have HM := Lib.hid (And.intro bp (And.intro bqq (And.intro hrl hsl)))
                have y0 : wm.cell? ⟨q, 0, none⟩ = some (.slice none 0 0) := bqq.cell 0
                have z0 := bqq.free 0
                have y1 : wm.cell? ⟨q, 1, none⟩ = some (.slice none 0 0) := bqq.cell 1
                have z1 := bqq.free 1
                have y2 : wm.cell? ⟨q, 2, none⟩ = some (.int .i64 0) := bqq.cell 2
                have z2 := bqq.free 2
                have y3 : wm.cell? ⟨q, 3, none⟩ = some (.int .i64 0) := bqq.cell 3
                have z3 := bqq.free 3
                have y4 : wm.cell? ⟨q, 4, none⟩ = some (.int .i64 0) := bqq.cell 4
                have z4 := bqq.free 4
                have y5 : wm.cell? ⟨q, 5, none⟩ = some (.int .i64 0) := bqq.cell 5
                have z5 := bqq.free 5
                have y6 : wm.cell? ⟨q, 6, none⟩ = some (.int .i64 0) := bqq.cell 6
                have z6 := bqq.free 6
                have y7 : wm.cell? ⟨q, 7, none⟩ = some (.int .i64 0) := bqq.cell 7
                have z7 := bqq.free 7
                have y8 : wm.cell? ⟨q, 8, none⟩ = some (.int .i64 0) := bqq.cell 8
                have z8 := bqq.free 8
                have y9 : wm.cell? ⟨q, 9, none⟩ = some (.bool false) := bqq.cell 9
                have z9 := bqq.free 9
                clear bp bqq hrl hsl hcp
                refine hK.out _ _ (cells28 HM.out.2.2.2 HE.out HX5.out) (fun hH => ?_)
                clear hK hH
                try simp only [Act.put, List.setIfInBounds_toArray, List.set_cons_zero, List.set_cons_succ]
                refine wpAnyH_ready (rs := [12]) (by as_aux_lemma => kernel_rfl) (by simp) (AllReadyH.cons rfl (fun K hK => ?_) AllReadyH.nil)
                go_simp
                clear y0 z0 y1 z1 y2 z2 y3 z3 y4 z4 y5 z5 y6 z6 y7 z7 y8 z8 y9 z9
                obtain ⟨bqq, hcq⟩ := set10 HM.out.2.1 (.slice (some ⟨gg, 0, none⟩) ws2.length cg) (.slice (some ⟨gb, 0, none⟩) ws2.length ws2.length) (.int .i64 e0) (.int .i64 e1) (.int .i64 e2) (.int .i64 e3) (.int .i64 e4) (.int .i64 e5) (.int .i64 (-1)) (.bool false)
                have bp := HM.out.1.chg hcq (fun e => HL.out.2.2.2.2.2.2.2.2.2.1 e)
                have hrl := HM.out.2.2.1.chg hcq (fun e => HL.out.2.2.2.2.2.2.2.2.2.2.2.1 e) (fun e => HL.out.2.2.2.2.2.2.2.2.2.2.2.2.2 e)
                have hsl := HM.out.2.2.2.free HL.out.2.2.2.2.2.2.1 HL.out.2.2.2.2.2.2.2.2.1 hcq
                generalize ((((((((((wm.setCell ⟨q, 0, none⟩ (.slice (some ⟨gg, 0, none⟩) ws2.length cg)).setCell ⟨q, 1, none⟩ (.slice (some ⟨gb, 0, none⟩) ws2.length ws2.length)).setCell ⟨q, 2, none⟩ (.int .i64 e0)).setCell ⟨q, 3, none⟩ (.int .i64 e1)).setCell ⟨q, 4, none⟩ (.int .i64 e2)).setCell ⟨q, 5, none⟩ (.int .i64 e3)).setCell ⟨q, 6, none⟩ (.int .i64 e4)).setCell ⟨q, 7, none⟩ (.int .i64 e5)).setCell ⟨q, 8, none⟩ (.int .i64 (-1))).setCell ⟨q, 9, none⟩ (.bool false)) = wn at bp hcq bqq hrl hsl ⊢
                have HN := Lib.hid (And.intro bp (And.intro bqq (And.intro hrl hsl)))
                clear bp bqq hrl hsl hcq
                refine hK.out _ _ (cells28 HN.out.2.2.2 HE.out HX5.out) (fun hH => ?_)
                clear hK hH
                try simp only [Act.put, List.setIfInBounds_toArray, List.set_cons_zero, List.set_cons_succ]
                refine wpAnyH_done (by as_aux_lemma => kernel_rfl) ?_ _
                go_wp2
                go_meet
                case rel => exact ⟨p, q, gg, cg, e0, e1, e2, e3, e4, e5, rfl, rfl, Lib.hid ⟨HN.out.1, HN.out.2.1, HN.out.2.2.1, HL.out.2.2.2.2.1, HL.out.2.2.2.2.2.1, HL.out.2.2.2.2.2.2.1, HL.out.2.2.2.2.2.2.2.1, HL.out.2.2.2.2.2.2.2.2.1, HL.out.2.2.2.2.2.2.2.2.2.1, HL.out.2.2.2.2.2.2.2.2.2.2.1, HL.out.2.2.2.2.2.2.2.2.2.2.2.1, HN.out.2.2.2⟩⟩
          case rest =>
            obtain ⟨p, q, gg, cg, e0, e1, e2, e3, e4, e5, rfl, rfl, HR⟩ := hcut
            have hps : (es.map Ent.bo)[t]? = some bo := by rw [List.getElem?_map, HE.out]; rfl
            have HPS := Lib.hid hps
            clear hps
            have hp3 : o2.pc ≤ 3 := HOK2.out.1.pc
            obtain ⟨B, hB⟩ : ∃ B, decide (o2.pc = 3) = B := ⟨_, rfl⟩
            have t3 : decide ((3 : Int) ≤ (o2.pc : Int)) = B := by rw [← hB, Bool.eq_iff_iff]; simp; omega
            have HB := Lib.hid hB
            clear hB hp3
            go_upto_region 29 with fail
            refine wp_region_held_drew (S := (fun w' => w'.cell? ⟨g7, t, none⟩ = some (.pointer (some ⟨bo, 0, none⟩)) ∧ w'.cell? ⟨p, 4, none⟩ = some (.int .i64 o2.pc))) (by as_aux_lemma => kernel_rfl) (cells29 HR.out.2.2.2.2.2.2.2.2.2.2.2.drew HPS.out HR.out.1.drew) (fun hH0 => ?_)
            refine take_first 0 (some 179) ?_ rfl rfl (by as_aux_lemma => kernel_rfl) (by as_aux_lemma => kernel_rfl) (by as_aux_lemma => kernel_rfl) (fun _ _ _ h => h) rfl ?hy hH0 ?_
            case hy => (intro w0 hS0; (try dsimp only at hS0); (try go_simp); try with_reducible rfl)
            try simp only [Act.put, List.setIfInBounds_toArray, List.set_cons_zero, List.set_cons_succ]
            refine take_first 1 (some 180) ?_ rfl rfl (by as_aux_lemma => kernel_rfl) (by as_aux_lemma => kernel_rfl) (by as_aux_lemma => kernel_rfl) (fun _ _ _ h => h) rfl ?hy hH0 ?_
            case hy => (intro w0 hS0; (try dsimp only at hS0); (try go_simp); try with_reducible rfl)
            try simp only [Act.put, List.setIfInBounds_toArray, List.set_cons_zero, List.set_cons_succ]
            refine take_first 2 (some 181) ?_ rfl rfl (by as_aux_lemma => kernel_rfl) (by as_aux_lemma => kernel_rfl) (by as_aux_lemma => kernel_rfl) (fun _ _ _ h => h) rfl ?hy hH0 ?_
            case hy => (intro w0 hS0; (try dsimp only at hS0); (try go_simp); try with_reducible rfl)
            try simp only [Act.put, List.setIfInBounds_toArray, List.set_cons_zero, List.set_cons_succ]
            refine take_first 3 (some 182) ?_ rfl rfl (by as_aux_lemma => kernel_rfl) (by as_aux_lemma => kernel_rfl) (by as_aux_lemma => kernel_rfl) (fun _ _ _ h => h) rfl ?hy hH0 ?_
            case hy => (intro w0 hS0; (try dsimp only at hS0); (try go_simp); try with_reducible rfl)
            try simp only [Act.put, List.setIfInBounds_toArray, List.set_cons_zero, List.set_cons_succ]
            refine take_first 4 (some 183) ?_ rfl rfl (by as_aux_lemma => kernel_rfl) (by as_aux_lemma => kernel_rfl) (by as_aux_lemma => kernel_rfl) (fun _ _ _ h => h) rfl ?hy hH0 ?_
            case hy => (intro w0 hS0; (try dsimp only at hS0); (try go_simp); try with_reducible rfl)
            try simp only [Act.put, List.setIfInBounds_toArray, List.set_cons_zero, List.set_cons_succ]
            refine take_first 6 (some 185) ?_ rfl rfl (by as_aux_lemma => kernel_rfl) (by as_aux_lemma => kernel_rfl) (by as_aux_lemma => kernel_rfl) (fun _ _ _ h => h) rfl ?hy hH0 ?_
            case hy => (intro w0 hS0; (try dsimp only at hS0); (try go_simp); try with_reducible rfl)
            try simp only [Act.put, List.setIfInBounds_toArray, List.set_cons_zero, List.set_cons_succ]
            refine take_first 7 (some 186) ?_ rfl rfl (by as_aux_lemma => kernel_rfl) (by as_aux_lemma => kernel_rfl) (by as_aux_lemma => kernel_rfl) (fun _ _ _ h => h) rfl ?hy hH0 ?_
            case hy => (intro w0 hS0; (try dsimp only at hS0); (try go_simp); try with_reducible rfl)
            try simp only [Act.put, List.setIfInBounds_toArray, List.set_cons_zero, List.set_cons_succ]
            refine take_first 8 (some 187) ?_ rfl rfl (by as_aux_lemma => kernel_rfl) (by as_aux_lemma => kernel_rfl) (by as_aux_lemma => kernel_rfl) (fun _ _ _ h => h) rfl ?hy hH0 ?_
            case hy => (intro w0 hS0; (try dsimp only at hS0); (try go_simp); try with_reducible rfl)
            try simp only [Act.put, List.setIfInBounds_toArray, List.set_cons_zero, List.set_cons_succ]
            refine wpAnyH_ready (rs := [5]) (by as_aux_lemma => kernel_rfl) (by simp) (AllReadyH.cons rfl (fun K hK => ?_) AllReadyH.nil)
            go_simp
            have hat := HR.out.2.2.2.2.2.2.2.2.2.2.2.drew.at HE.out
            refine (s_step HR.out.2.2.2.2.2.2.2.2.2.2.2.drew.sys hat.1 HNO.out hat.2.1 hat.2.2).mono ?_; rintro e w3 ⟨he, ho3, hs3, hc3⟩
            rw [HO2.out.1] at he ho3
            rw [HO2.out.2] at hs3
            rw [HB.out] at he
            subst he
            obtain ⟨m3, hst3⟩ := HR.out.2.2.2.2.2.2.2.2.2.2.2.drew.step HE.out hc3 ho3 hs3.mem HOK2.out.2.2.2.2.2 HOK2.out.2.2.2.2.1 (by have h := HOK2.out.1; rw [HR.out.2.2.2.2.2.2.2.2.2.2.2.lw] at h; exact h) HOK2.out.2.1 (by rw [HOK2.out.2.2.1]; exact HAS.out.1) (by rw [HOK2.out.2.2.2.1]; exact HAS.out.2)
            have hmk := HR.out.2.2.2.2.2.2.2.2.2.2.2.marks
            have hme := HR.out.2.2.2.2.2.2.2.2.2.2.2.markE HE.out
            have hfree : ∀ x, χ x = 0 → ¬ (x = b ∨ x = bw ∨ x = bo) := fun x hx h => by rcases h with rfl | rfl | rfl; (have := hmk.1; omega); (have := hmk.2.1; omega); (have hme' : χ x = _ := hme; omega)
            have hgg : ¬ (gg = b ∨ gg = bw ∨ gg = bo) := by rcases HR.out.2.2.2.1 with e | ⟨h, _⟩; (subst e; intro h; rcases h with h | h | h; (have := hmk.1; rw [← h] at this; omega); (have := hmk.2.1; rw [← h] at this; omega); (have hme' : χ bo = _ := hme; rw [← h] at hme'; omega)); exact hfree gg h
            have hgb : ¬ (gb = b ∨ gb = bw ∨ gb = bo) := by intro h; rcases h with h | h | h; (have := hmk.1; rw [← h] at this; omega); (have := hmk.2.1; rw [← h] at this; omega); (have hme' : χ bo = _ := hme; rw [← h] at hme'; omega)
            have hp3 := HR.out.1.drew.chg hc3 (hfree p HR.out.2.2.2.2.1)
            have hq3 := HR.out.2.1.drew.chg hc3 (hfree q HR.out.2.2.2.2.2.1)
            have hr3 := HR.out.2.2.1.drew.chg hc3 hgg hgb
            have hc7 := cells29 hst3 HPS.out hp3
            have H3 := Lib.hid (And.intro hst3 (And.intro hp3 (And.intro hq3 (And.intro hr3 ho3))))
            clear hat ho3 hs3 hc3 hst3 hmk hme hfree hgg hgb hp3 hq3 hr3
            refine hK.out _ _ hc7 (fun hH1 => ?_)
            clear hK
            try simp only [Act.put, List.setIfInBounds_toArray, List.set_cons_zero, List.set_cons_succ]
            refine take_first 9 (some 188) (.bool false) rfl rfl (by as_aux_lemma => kernel_rfl) (by as_aux_lemma => kernel_rfl) (by as_aux_lemma => kernel_rfl) (fun _ _ _ h => h) rfl (by intro w0 hS0; (try dsimp only at hS0); go_simp) hH1 ?_
            try simp only [Act.put, List.setIfInBounds_toArray, List.set_cons_zero, List.set_cons_succ]
            refine take_first 10 (some 189) (.bool false) rfl rfl (by as_aux_lemma => kernel_rfl) (by as_aux_lemma => kernel_rfl) (by as_aux_lemma => kernel_rfl) (fun _ _ _ h => h) rfl (by intro w0 hS0; (try dsimp only at hS0); go_simp) hH1 ?_
            try simp only [Act.put, List.setIfInBounds_toArray, List.set_cons_zero, List.set_cons_succ]
            refine take_first 11 (some 190) ?_ rfl rfl (by as_aux_lemma => kernel_rfl) (by as_aux_lemma => kernel_rfl) (by as_aux_lemma => kernel_rfl) (fun _ _ _ h => h) rfl ?hy hH1 ?_
            case hy => (intro w0 hS0; (try dsimp only at hS0); (try go_simp); try with_reducible rfl)
            try simp only [Act.put, List.setIfInBounds_toArray, List.set_cons_zero, List.set_cons_succ]
            refine take_first 12 (some 191) ?_ rfl rfl (by as_aux_lemma => kernel_rfl) (by as_aux_lemma => kernel_rfl) (by as_aux_lemma => kernel_rfl) (fun _ _ _ h => h) rfl ?hy hH1 ?_
            case hy => (intro w0 hS0; (try dsimp only at hS0); (try go_simp); try with_reducible rfl)
            try simp only [Act.put, List.setIfInBounds_toArray, List.set_cons_zero, List.set_cons_succ]
            refine take_first 13 (some 192) ?_ rfl rfl (by as_aux_lemma => kernel_rfl) (by as_aux_lemma => kernel_rfl) (by as_aux_lemma => kernel_rfl) (fun _ _ _ h => h) rfl ?hy hH1 ?_
            case hy => (intro w0 hS0; (try dsimp only at hS0); (try go_simp); try with_reducible rfl)
            try simp only [Act.put, List.setIfInBounds_toArray, List.set_cons_zero, List.set_cons_succ]
            refine take_first 14 (some 193) ?_ rfl rfl (by as_aux_lemma => kernel_rfl) (by as_aux_lemma => kernel_rfl) (by as_aux_lemma => kernel_rfl) (fun _ _ _ h => h) rfl ?hy hH1 ?_
            case hy => (intro w0 hS0; (try dsimp only at hS0); (try go_simp); try with_reducible rfl)
            try simp only [Act.put, List.setIfInBounds_toArray, List.set_cons_zero, List.set_cons_succ]
            refine take_first 16 (some 195) ?_ rfl rfl (by as_aux_lemma => kernel_rfl) (by as_aux_lemma => kernel_rfl) (by as_aux_lemma => kernel_rfl) (fun _ _ _ h => h) rfl ?hy hH1 ?_
            case hy => (intro w0 hS0; (try dsimp only at hS0); (try go_simp); try with_reducible rfl)
            try simp only [Act.put, List.setIfInBounds_toArray, List.set_cons_zero, List.set_cons_succ]
            refine take_first 17 (some 196) ?_ rfl rfl (by as_aux_lemma => kernel_rfl) (by as_aux_lemma => kernel_rfl) (by as_aux_lemma => kernel_rfl) (fun _ _ _ h => h) rfl ?hy hH1 ?_
            case hy => (intro w0 hS0; (try dsimp only at hS0); (try go_simp); try with_reducible rfl)
            try simp only [Act.put, List.setIfInBounds_toArray, List.set_cons_zero, List.set_cons_succ]
            refine wpAnyH_ready (rs := [15]) (by as_aux_lemma => kernel_rfl) (by simp) (AllReadyH.cons rfl (fun K hK => ?_) AllReadyH.nil)
            go_simp
            refine (s_at H3.out.2.2.2.2).mono ?_; rintro e w' ⟨rfl, rfl⟩
            refine hK.out _ _ hc7 (fun hH2 => ?_)
            clear hK
            clear hH1
            try simp only [Act.put, List.setIfInBounds_toArray, List.set_cons_zero, List.set_cons_succ]
            refine take_first 18 (some 197) (.bool false) rfl rfl (by as_aux_lemma => kernel_rfl) (by as_aux_lemma => kernel_rfl) (by as_aux_lemma => kernel_rfl) (fun _ _ _ h => h) rfl (by intro w0 hS0; (try dsimp only at hS0); go_simp) hH2 ?_
            try simp only [Act.put, List.setIfInBounds_toArray, List.set_cons_zero, List.set_cons_succ]
            refine take_first 19 (some 198) (.bool false) rfl rfl (by as_aux_lemma => kernel_rfl) (by as_aux_lemma => kernel_rfl) (by as_aux_lemma => kernel_rfl) (fun _ _ _ h => h) rfl (by intro w0 hS0; (try dsimp only at hS0); go_simp) hH2 ?_
            try simp only [Act.put, List.setIfInBounds_toArray, List.set_cons_zero, List.set_cons_succ]
            refine wpAnyH_done (by as_aux_lemma => kernel_rfl) ?_ _
            clear hc7 hH0 hH2
            go_upto_region 31 with fail
            have he3 : (es.set t (Ent.mk bo bwd o2 o bq cq))[t]? = some (Ent.mk bo bwd o2 o bq cq) := List.getElem?_set_self (List.getElem?_eq_some_iff.1 HE.out).1
            obtain ⟨gx, capx, cur, hv, hm8, l1, l2, l3, hcur⟩ := H3.out.1.pos8 (by rw [List.length_set, HEL.out]; omega)
            have hgx := (slice_inj hv).1
            subst hgx
            obtain ⟨⟨cy, f0, f1, f2, f3, f4, f5, hx3⟩, _⟩ := H3.out.1.ref
            have c8 := cell8 H3.out.1.hp hm8 hcur he3
            have y0 : w3.cell? ⟨g8, t * 9, none⟩ = some (.int .i64 o.a) := c8 0 (by decide)
            have z0 : w3.frozen? ⟨g8, t * 9, none⟩ = false := (H3.out.1.hp.blk hm8).free _
            have p0 : w3.cell? ⟨p, 0, none⟩ = some (.int .i64 o2.a) := H3.out.2.1.cell 0
            have y1 : w3.cell? ⟨g8, t * 9 + 1, none⟩ = some (.int .i64 o.s) := c8 1 (by decide)
            have z1 : w3.frozen? ⟨g8, t * 9 + 1, none⟩ = false := (H3.out.1.hp.blk hm8).free _
            have p1 : w3.cell? ⟨p, 1, none⟩ = some (.int .i64 o2.s) := H3.out.2.1.cell 1
            have y2 : w3.cell? ⟨g8, t * 9 + 2, none⟩ = some (.int .i64 o.m) := c8 2 (by decide)
            have z2 : w3.frozen? ⟨g8, t * 9 + 2, none⟩ = false := (H3.out.1.hp.blk hm8).free _
            have p2 : w3.cell? ⟨p, 2, none⟩ = some (.int .i64 o2.m) := H3.out.2.1.cell 2
            have y3 : w3.cell? ⟨g8, t * 9 + 3, none⟩ = some (.slice (some ⟨bq, 0, none⟩) o.words.length cq) := c8 3 (by decide)
            have z3 : w3.frozen? ⟨g8, t * 9 + 3, none⟩ = false := (H3.out.1.hp.blk hm8).free _
            have p3 : w3.cell? ⟨p, 3, none⟩ = some (.slice (some ⟨bq, 0, none⟩) o.words.length cq) := H3.out.2.1.cell 3
            have y4 : w3.cell? ⟨g8, t * 9 + 4, none⟩ = some (.int .i64 o.pc) := c8 4 (by decide)
            have z4 : w3.frozen? ⟨g8, t * 9 + 4, none⟩ = false := (H3.out.1.hp.blk hm8).free _
            have p4 : w3.cell? ⟨p, 4, none⟩ = some (.int .i64 o2.pc) := H3.out.2.1.cell 4
            have y5 : w3.cell? ⟨g8, t * 9 + 5, none⟩ = some (.int .i64 o.k) := c8 5 (by decide)
            have z5 : w3.frozen? ⟨g8, t * 9 + 5, none⟩ = false := (H3.out.1.hp.blk hm8).free _
            have p5 : w3.cell? ⟨p, 5, none⟩ = some (.int .i64 o2.k) := H3.out.2.1.cell 5
            have y6 : w3.cell? ⟨g8, t * 9 + 6, none⟩ = some (.int .u64 o.p) := c8 6 (by decide)
            have z6 : w3.frozen? ⟨g8, t * 9 + 6, none⟩ = false := (H3.out.1.hp.blk hm8).free _
            have p6 : w3.cell? ⟨p, 6, none⟩ = some (.int .u64 o2.p) := H3.out.2.1.cell 6
            have y7 : w3.cell? ⟨g8, t * 9 + 7, none⟩ = some (.int .u64 o.g) := c8 7 (by decide)
            have z7 : w3.frozen? ⟨g8, t * 9 + 7, none⟩ = false := (H3.out.1.hp.blk hm8).free _
            have p7 : w3.cell? ⟨p, 7, none⟩ = some (.int .u64 o2.g) := H3.out.2.1.cell 7
            have y8 : w3.cell? ⟨g8, t * 9 + 8, none⟩ = some (.int .i64 o.code) := c8 8 (by decide)
            have z8 : w3.frozen? ⟨g8, t * 9 + 8, none⟩ = false := (H3.out.1.hp.blk hm8).free _
            have p8 : w3.cell? ⟨p, 8, none⟩ = some (.int .i64 o2.code) := H3.out.2.1.cell 8
            have x0 : w3.cell? ⟨bx, 0, none⟩ = some (.slice (some ⟨gw, 0, none⟩) ws.length cy) := (H3.out.1.hp.blk hx3).cell 0
            have s0 : w3.frozen? ⟨bx, 0, none⟩ = false := (H3.out.1.hp.blk hx3).free _
            have q0 : w3.cell? ⟨q, 0, none⟩ = some (.slice (some ⟨gg, 0, none⟩) ws2.length cg) := H3.out.2.2.1.cell 0
            have x1 : w3.cell? ⟨bx, 1, none⟩ = some (.slice (some ⟨gb, 0, none⟩) ws.length ws.length) := (H3.out.1.hp.blk hx3).cell 1
            have s1 : w3.frozen? ⟨bx, 1, none⟩ = false := (H3.out.1.hp.blk hx3).free _
            have q1 : w3.cell? ⟨q, 1, none⟩ = some (.slice (some ⟨gb, 0, none⟩) ws2.length ws2.length) := H3.out.2.2.1.cell 1
            have x2 : w3.cell? ⟨bx, 2, none⟩ = some (.int .i64 f0) := (H3.out.1.hp.blk hx3).cell 2
            have s2 : w3.frozen? ⟨bx, 2, none⟩ = false := (H3.out.1.hp.blk hx3).free _
            have q2 : w3.cell? ⟨q, 2, none⟩ = some (.int .i64 e0) := H3.out.2.2.1.cell 2
            have x3 : w3.cell? ⟨bx, 3, none⟩ = some (.int .i64 f1) := (H3.out.1.hp.blk hx3).cell 3
            have s3 : w3.frozen? ⟨bx, 3, none⟩ = false := (H3.out.1.hp.blk hx3).free _
            have q3 : w3.cell? ⟨q, 3, none⟩ = some (.int .i64 e1) := H3.out.2.2.1.cell 3
            have x4 : w3.cell? ⟨bx, 4, none⟩ = some (.int .i64 f2) := (H3.out.1.hp.blk hx3).cell 4
            have s4 : w3.frozen? ⟨bx, 4, none⟩ = false := (H3.out.1.hp.blk hx3).free _
            have q4 : w3.cell? ⟨q, 4, none⟩ = some (.int .i64 e2) := H3.out.2.2.1.cell 4
            have x5 : w3.cell? ⟨bx, 5, none⟩ = some (.int .i64 f3) := (H3.out.1.hp.blk hx3).cell 5
            have s5 : w3.frozen? ⟨bx, 5, none⟩ = false := (H3.out.1.hp.blk hx3).free _
            have q5 : w3.cell? ⟨q, 5, none⟩ = some (.int .i64 e3) := H3.out.2.2.1.cell 5
            have x6 : w3.cell? ⟨bx, 6, none⟩ = some (.int .i64 f4) := (H3.out.1.hp.blk hx3).cell 6
            have s6 : w3.frozen? ⟨bx, 6, none⟩ = false := (H3.out.1.hp.blk hx3).free _
            have q6 : w3.cell? ⟨q, 6, none⟩ = some (.int .i64 e4) := H3.out.2.2.1.cell 6
            have x7 : w3.cell? ⟨bx, 7, none⟩ = some (.int .i64 f5) := (H3.out.1.hp.blk hx3).cell 7
            have s7 : w3.frozen? ⟨bx, 7, none⟩ = false := (H3.out.1.hp.blk hx3).free _
            have q7 : w3.cell? ⟨q, 7, none⟩ = some (.int .i64 e5) := H3.out.2.2.1.cell 7
            have x8 : w3.cell? ⟨bx, 8, none⟩ = some (.int .i64 (-1)) := (H3.out.1.hp.blk hx3).cell 8
            have s8 : w3.frozen? ⟨bx, 8, none⟩ = false := (H3.out.1.hp.blk hx3).free _
            have q8 : w3.cell? ⟨q, 8, none⟩ = some (.int .i64 (-1)) := H3.out.2.2.1.cell 8
            have x9 : w3.cell? ⟨bx, 9, none⟩ = some (.bool false) := (H3.out.1.hp.blk hx3).cell 9
            have s9 : w3.frozen? ⟨bx, 9, none⟩ = false := (H3.out.1.hp.blk hx3).free _
            have q9 : w3.cell? ⟨q, 9, none⟩ = some (.bool false) := H3.out.2.2.1.cell 9
            have hm8' := H3.out.1.mark8 (by rw [List.length_set, HEL.out]; omega)
            have hmk := H3.out.1.marks
            have hp0 := HR.out.2.2.2.2.1
            have hq0 := HR.out.2.2.2.2.2.1
            have n_p_g8 : ¬ p = g8 := fun e => by rw [e] at hp0; omega
            have n_g8_p : ¬ g8 = p := fun e => by rw [← e] at hp0; omega
            have n_q_g8 : ¬ q = g8 := fun e => by rw [e] at hq0; omega
            have n_g8_q : ¬ g8 = q := fun e => by rw [← e] at hq0; omega
            have n_p_bx : ¬ p = bx := fun e => by rw [e] at hp0; omega
            have n_bx_p : ¬ bx = p := fun e => by rw [← e] at hp0; omega
            have n_q_bx : ¬ q = bx := fun e => by rw [e] at hq0; omega
            have n_bx_q : ¬ bx = q := fun e => by rw [← e] at hq0; omega
            have n_bx_g8 : ¬ bx = g8 := fun e => by rw [← e] at hm8'; omega
            have n_g8_bx : ¬ g8 = bx := fun e => by rw [e] at hm8'; omega
            have HM8 := Lib.hid (And.intro hm8 (And.intro l1 (And.intro l2 (And.intro l3 (And.intro hcur (And.intro he3 hx3))))))
            have HN8 := Lib.hid (show ¬ bx = g8 from n_bx_g8)
            have HG8 := Lib.hid hm8'
            have HMK := Lib.hid hmk
            clear c8 hm8 l1 l2 l3 hcur he3 hx3 hm8' hmk hp0 hq0
            have HV := Lib.hid hv
            clear hv
            go_region
            all_goals go_wp2
            clear y0 z0 p0 y1 z1 p1 y2 z2 p2 y3 z3 p3 y4 z4 p4 y5 z5 p5 y6 z6 p6 y7 z7 p7 y8 z8 p8 x0 s0 q0 x1 s1 q1 x2 s2 q2 x3 s3 q3 x4 s4 q4 x5 s5 q5 x6 s6 q6 x7 s7 q7 x8 s8 q8 x9 s9 q9 n_p_g8 n_g8_p n_q_g8 n_g8_q n_p_bx n_bx_p n_q_bx n_bx_q n_bx_g8 n_g8_bx
            obtain ⟨b8, hc8⟩ := set9At (k := t * 9) (H3.out.1.hp.blk HM8.out.1) (.int .i64 o2.a) (.int .i64 o2.s) (.int .i64 o2.m) (.slice (some ⟨bq, 0, none⟩) o.words.length cq) (.int .i64 o2.pc) (.int .i64 o2.k) (.int .u64 o2.p) (.int .u64 o2.g) (.int .i64 o2.code)
            obtain ⟨m4, hst4⟩ := H3.out.1.own (e := Ent.mk bo bwd o2 o bq cq) HV.out HM8.out.1 HM8.out.2.1 HM8.out.2.2.1 HM8.out.2.2.2.1 HM8.out.2.2.2.2.1 HM8.out.2.2.2.2.2.1 o2 HOK2.out.2.2.2.2.1 hc8 (by have h := b8; unfold Ent.vals refVals; rw [HOK2.out.2.2.2.2.1]; exact h)
            have hgg8 : ¬ gg = g8 := fun e => by rcases HR.out.2.2.2.1 with h | ⟨h, _⟩; (rw [e] at h; have h1 := HG8.out; have h2 := HMK.out.2.2.2.1; rw [← h] at h2; omega); (rw [e] at h; have h1 := HG8.out; omega)
            have hgb8 : ¬ gb = g8 := fun e => by have h1 := HG8.out; have h2 := HMK.out.2.2.2.2; rw [e] at h2; omega
            have hggx : ¬ gg = bx := fun e => by rcases HR.out.2.2.2.1 with h | ⟨h, _⟩; (rw [e] at h; have h1 := HMK.out.2.2.1; have h2 := HMK.out.2.2.2.1; rw [← h] at h2; omega); (rw [e] at h; have h1 := HMK.out.2.2.1; omega)
            have hgbx : ¬ gb = bx := fun e => by have h1 := HMK.out.2.2.1; have h2 := HMK.out.2.2.2.2; rw [e] at h2; omega
            have hr4 := H3.out.2.2.2.1.chg hc8 hgg8 hgb8
            generalize (((((((((w3.setCell ⟨g8, t * 9, none⟩ (.int .i64 o2.a)).setCell ⟨g8, t * 9 + 1, none⟩ (.int .i64 o2.s)).setCell ⟨g8, t * 9 + 2, none⟩ (.int .i64 o2.m)).setCell ⟨g8, t * 9 + 3, none⟩ (.slice (some ⟨bq, 0, none⟩) o.words.length cq)).setCell ⟨g8, t * 9 + 4, none⟩ (.int .i64 o2.pc)).setCell ⟨g8, t * 9 + 5, none⟩ (.int .i64 o2.k)).setCell ⟨g8, t * 9 + 6, none⟩ (.int .u64 o2.p)).setCell ⟨g8, t * 9 + 7, none⟩ (.int .u64 o2.g)).setCell ⟨g8, t * 9 + 8, none⟩ (.int .i64 o2.code)) = w4 at hst4 hr4 ⊢
            obtain ⟨⟨cy', f0', f1', f2', f3', f4', f5', hx4⟩, _⟩ := hst4.ref
            obtain ⟨bx5, hcx5⟩ := set10 (hst4.hp.blk hx4) (.slice (some ⟨gg, 0, none⟩) ws2.length cg) (.slice (some ⟨gb, 0, none⟩) ws2.length ws2.length) (.int .i64 e0) (.int .i64 e1) (.int .i64 e2) (.int .i64 e3) (.int .i64 e4) (.int .i64 e5) (.int .i64 (-1)) (.bool false)
            obtain ⟨χ5, m5, hst5⟩ := hst4.refnew hcx5 bx5 (hr4.chg hcx5 hggx hgbx) HOK2.out.2.2.2.2.2 HR.out.2.2.2.1
            generalize ((((((((((w4.setCell ⟨bx, 0, none⟩ (.slice (some ⟨gg, 0, none⟩) ws2.length cg)).setCell ⟨bx, 1, none⟩ (.slice (some ⟨gb, 0, none⟩) ws2.length ws2.length)).setCell ⟨bx, 2, none⟩ (.int .i64 e0)).setCell ⟨bx, 3, none⟩ (.int .i64 e1)).setCell ⟨bx, 4, none⟩ (.int .i64 e2)).setCell ⟨bx, 5, none⟩ (.int .i64 e3)).setCell ⟨bx, 6, none⟩ (.int .i64 e4)).setCell ⟨bx, 7, none⟩ (.int .i64 e5)).setCell ⟨bx, 8, none⟩ (.int .i64 (-1))).setCell ⟨bx, 9, none⟩ (.bool false)) = w5 at hst5 ⊢
            have hset : ((es.set t (Ent.mk bo bwd o2 o bq cq)).set t (Ent.mk bo bwd o2 o2 bq cq)) = es.set t (Ent.mk bo bwd o2 o2 bq cq) := List.set_set ..
            have HFIN : Hid (∃ (es : List Ent) (χ : Nat → Nat) (m : HMap) (ws : List Nat) (gw : Nat), es.length = n' ∧ (∀ e ∈ es, e.r = e.o) ∧ St W w5.drew χ m W.heap.size s ba b bw bb bx gw gb (.slice (some ⟨g7, 0, none⟩) n' cap7) (.slice (some ⟨g8, 0, none⟩) n' cap8) ws ws (es.map Ent.bo) es) := Lib.hid ⟨es.set t (Ent.mk bo bwd o2 o2 bq cq), χ5, m5, ws2, gg, by rw [List.length_set]; exact HEL.out, fun f hf => by
              rcases List.mem_or_eq_of_mem_set hf with h | h
              · exact HEQ.out f h
              · rw [h], by
              rw [map_bo_set (e' := Ent.mk bo bwd o2 o2 bq cq) HE.out rfl, ← hset]
              exact hst5.drew⟩
            clear hc8 b8 hst4 hr4 hgg8 hgb8 hggx hgbx hx4 bx5 hcx5 hst5 hset
            go_roundg (200 - (k + 1))
            case measure => omega
            case rel => exact ⟨k + 1, by omega, by omega, rfl, by go_num, HFIN⟩
      · have t2 : decide ((k : Int) < 200) = false := by simp; omega
        clear h200
        go_wp2
        go_meet
        case rel => exact HI
    · have tk : decide (k < len') = false := by simp; omega
      clear hlt
      go_wp2
      go_meet
      case rel => exact HI
end Go.Proofs.Ytobdpieijgiaoaa
