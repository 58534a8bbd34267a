/- GateSteps: its second loop. (Printed by genstg.py.) -/
import Derived.Test.YtjmooohhndjmiaaGsH
namespace Go.Proofs.Ytjmooohhndjmiaa
open Go.RowKit Go.Deep
set_option linter.unusedSimpArgs false
set_option linter.unusedVariables false

set_option maxHeartbeats 40000000 in
set_option maxRecDepth 100000 in
theorem gloop2_walk (mn : Int) (A : Option Addr) (len cap : Nat) (l : List (List Int)) (A' : Option Addr) (len' cap' : Nat) (l' : List (List Int)) (W WW : World) (hlen : len ≤ 9223372036854775807) (hlen' : len' ≤ 9223372036854775807) (HLR : Hid (RowsAt W [.i64, .i64, .u64] A len cap l)) (HLP : Hid (RowsAt W [.i64] A' len' cap' l')) (M : Nat) (HG : Hid (GOk 1 M 0)) (HM4 : Hid (M ≤ 4)) (b bw bb gw gb bx : Nat) (g7 cap7 g8 cap8 n' : Nat) (hnn : 1 ≤ n' ∧ n' ≤ 12) (H0 : Hid (∃ (es : List Ent) (χ : Nat → Nat) (m : HMap) (ws : List Nat) (gw : Nat), es.length = n' ∧ (∀ e ∈ es, GRel e.o e.r) ∧ ws.getD 1 0 < 2 ^ M ∧ St W WW χ m W.heap.size M b bw bb bx gw gb (.slice (some ⟨g7, 0, none⟩) n' cap7) (.slice (some ⟨g8, 0, none⟩) n' cap8) ws ws (es.map Ent.bo) es)) (c14 c15 c16 c27 c28 c29 c30 c31 c32 c33 c34 c35 c36 c37 c38 c39 c40 c41 c42 c43 c44 c45 c46 c47 c48 c49 c50 c51 c52 c53 c54 c55 c56 c57 c58 c59 c60 c61 c62 c63 c64 c65 c66 c67 c68 c69 c70 c71 c72 c73 c74 c75 c76 c77 c78 c79 c80 c81 c82 c83 c84 c85 c86 c87 c88 c89 c90 c91 c92 c93 c94 c95 c96 c97 c98 c99 c100 c101 c102 : Value) (J K' : Act → World → Prop) (F : Ending → World → Prop)
    (hJ : ∀ a' w', (∃ u6 u17 u18 u19 u20 u21 u103 u104 u105 u106 u107 u108 u109 u110 u111 u112 u113 u114 u115 u116 u117 u118 u119 u120 u121 u122 u123 u124 u125 u126 u127 u128 u129 u130 u131 u132 u133 u134 u135 u136 u137 u138 u139 u140 u141 u142 u143 u144 u145 u146 u147 u148 u149 u150 u151 u152 u153 u154 u155 u156 u157 u158 u159 u160 u161 u162 u163 u164 u165 u166 u167 u168 u169 u170 u171 u172 u173 u174 u175 u176 u177 u178 u179 u180 u181 u182 u183 u184 u185 u186 u187 u188 u189 u190 u191 u192 u193 u194 u195 u196 u197 u198 u199 u200 u201 : Value, (Hid (∃ (es : List Ent) (χ : Nat → Nat) (m : HMap) (ws : List Nat) (gw : Nat), es.length = n' ∧ (∀ e ∈ es, GRel e.o e.r) ∧ ws.getD 1 0 < 2 ^ M ∧ St W w' χ m W.heap.size M b bw bb bx gw gb (.slice (some ⟨g7, 0, none⟩) n' cap7) (.slice (some ⟨g8, 0, none⟩) n' cap8) ws ws (es.map Ent.bo) es)) ∧ a' = ⟨#[.int .i64 mn, .slice A len cap, .slice A' len' cap', undef, undef, undef, u6, .pointer (some ⟨W.heap.size, 0, none⟩), .pointer (some ⟨b, 0, none⟩), .int .i64 0, .pointer (some ⟨bx, 0, none⟩), .int .i64 0, .slice (some ⟨g7, 0, none⟩) n' cap7, .slice (some ⟨g8, 0, none⟩) n' cap8, c14, c15, c16, u17, u18, u19, u20, u21, undef, undef, undef, undef, undef, c27, c28, c29, c30, c31, c32, c33, c34, c35, c36, c37, c38, c39, c40, c41, c42, c43, c44, c45, c46, c47, c48, c49, c50, c51, c52, c53, c54, c55, c56, c57, c58, c59, c60, c61, c62, c63, c64, c65, c66, c67, c68, c69, c70, c71, c72, c73, c74, c75, c76, c77, c78, c79, c80, c81, c82, c83, c84, c85, c86, c87, c88, c89, c90, c91, c92, c93, c94, c95, c96, c97, c98, c99, c100, c101, c102, u103, u104, u105, u106, u107, u108, u109, u110, u111, u112, u113, u114, u115, u116, u117, u118, u119, u120, u121, u122, u123, u124, u125, u126, u127, u128, u129, u130, u131, u132, u133, u134, u135, u136, u137, u138, u139, u140, u141, u142, u143, u144, u145, u146, u147, u148, u149, u150, u151, u152, u153, u154, u155, u156, u157, u158, u159, u160, u161, u162, u163, u164, u165, u166, u167, u168, u169, u170, u171, u172, u173, u174, u175, u176, u177, u178, u179, u180, u181, u182, u183, u184, u185, u186, u187, u188, u189, u190, u191, u192, u193, u194, u195, u196, u197, u198, u199, u200, u201, undef, undef, undef, undef, undef, undef, undef, undef, undef, undef, undef, undef, undef, undef, undef, undef, undef, undef, undef, undef, undef, undef, undef, undef, undef, undef, undef, undef, undef, undef, undef, undef, undef, undef, undef, undef, undef, undef, undef, undef, undef, undef, undef, undef, undef, undef, undef, undef, undef, undef, undef, undef, undef, undef, undef, undef, undef, undef, undef, undef, undef, undef, undef, undef, undef, undef, undef, undef, undef, undef, undef, undef, undef, undef, undef, undef, undef, undef], []⟩) → J a' w') (hK : ∀ a' w', Met J a' w' → K' a' w') :
    Code.wp Try.prog blk2 (Exit.then K' (bodyPost Try.prog Try.f3 F)) ⟨#[.int .i64 mn, .slice A len cap, .slice A' len' cap', undef, undef, undef, .bool false, .pointer (some ⟨W.heap.size, 0, none⟩), .pointer (some ⟨b, 0, none⟩), .int .i64 0, .pointer (some ⟨bx, 0, none⟩), .int .i64 0, .slice (some ⟨g7, 0, none⟩) n' cap7, .slice (some ⟨g8, 0, none⟩) n' cap8, c14, c15, c16, .int .i64 0, undef, undef, undef, undef, undef, undef, undef, undef, undef, c27, c28, c29, c30, c31, c32, c33, c34, c35, c36, c37, c38, c39, c40, c41, c42, c43, c44, c45, c46, c47, c48, c49, c50, c51, c52, c53, c54, c55, c56, c57, c58, c59, c60, c61, c62, c63, c64, c65, c66, c67, c68, c69, c70, c71, c72, c73, c74, c75, c76, c77, c78, c79, c80, c81, c82, c83, c84, c85, c86, c87, c88, c89, c90, c91, c92, c93, c94, c95, c96, c97, c98, c99, c100, c101, c102, undef, undef, undef, undef, undef, undef, undef, undef, undef, undef, undef, undef, undef, undef, undef, undef, undef, undef, undef, undef, undef, undef, undef, undef, undef, undef, undef, undef, undef, undef, undef, undef, undef, undef, undef, undef, undef, undef, undef, undef, undef, undef, undef, undef, undef, undef, undef, undef, undef, undef, undef, undef, undef, undef, undef, undef, undef, undef, undef, undef, undef, undef, undef, undef, undef, undef, undef, undef, undef, undef, undef, undef, undef, undef, undef, undef, undef, undef, undef, undef, undef, undef, undef, undef, undef, undef, undef, undef, undef, undef, undef, undef, undef, undef, undef, undef, undef, undef, undef, undef, undef, undef, undef, undef, undef, undef, undef, undef, undef, undef, undef, undef, undef, undef, undef, undef, undef, undef, undef, undef, undef, undef, undef, undef, undef, undef, undef, undef, undef, undef, undef, undef, undef, undef, undef, undef, undef, undef, undef, undef, undef, undef, undef, undef, undef, undef, undef, undef, undef, undef, undef, undef, undef, undef, undef, undef, undef, undef, undef, undef, undef, undef, undef, undef, undef, undef, undef, undef, undef, undef, undef, undef, undef, undef, undef, undef, undef], []⟩ WW := by
  conv => arg 2; whnf
  let Q' := bodyPost Try.prog Try.f3 F
  change Code.wp _ _ (Exit.then K' Q') _ _
  go_wp2_with fail
  go_loopg [17] 200 (fun g i wr => ∃ (k : Nat), k ≤ len' ∧ k ≤ 200 ∧ g = 200 - k ∧ i = .int .i64 k ∧ Hid (∃ (es : List Ent) (χ : Nat → Nat) (m : HMap) (ws : List Nat) (gw : Nat), es.length = n' ∧ (∀ e ∈ es, GRel e.o e.r) ∧ ws.getD 1 0 < 2 ^ M ∧ St W wr χ m W.heap.size M b bw bb bx gw gb (.slice (some ⟨g7, 0, none⟩) n' cap7) (.slice (some ⟨g8, 0, none⟩) n' cap8) ws ws (es.map Ent.bo) es))
  case atStart => exact ⟨0, by omega, by omega, rfl, rfl, H0⟩
  case round =>
    clear H0
    obtain ⟨k, hk, hk2, rfl, rfl, HI⟩ := hrel
    have tn : decide (0 < n') = true := by simp; omega
    by_cases hlt : k < len'
    · by_cases h200 : k < 200
      · have t200 : decide ((k : Int) < 200) = true := by simp; omega
        obtain ⟨es, χ, m, ws, gw, hel, heq, hmk, hst⟩ := HI.out
        obtain ⟨ba', off', z, rfl, hz0⟩ := num_cell HLP.out hlt
        have HZ := Lib.hid hz0
        have hz := kcell hst.hp.below hz0
        clear hz0
        obtain ⟨r0, hr⟩ : ∃ r0 : Nat, z % 8 = r0 := ⟨(z % 8).toNat, by omega⟩
        have hand : bits .and .i64 z 7 = (r0 : Int) := by rw [and7, hr]
        have HEL := Lib.hid hel
        have HEQ := Lib.hid heq
        have HS := Lib.hid hst
        have HMK := Lib.hid hmk
        by_cases hr7 : r0 = 7
        · obtain ⟨q, hq⟩ : ∃ q : Nat, (z / 8) % 4 = q := ⟨((z / 8) % 4).toNat, by omega⟩
          have hand2 : bits .and .i64 (z / 8) 3 = (q : Int) := by rw [and3, hq]
          obtain ⟨v, hv⟩ : ∃ v : Nat, (z / 32) % 32 = v := ⟨((z / 32) % 32).toNat, by omega⟩
          have hand3 : bits .and .i64 (z / 32) 31 = (v : Int) := by rw [and31, hv]
          have hv32 : v < 32 := by omega
          have ev : IntKind.u64.wrap (v : Int) = (v : Int) := by rw [IntKind.wrap_u64]; omega
          have hq4 : q < 4 := by omega
          obtain ⟨kk, hkk⟩ : ∃ kk, q * 2 % 5 = kk := ⟨_, rfl⟩
          have hk5 : kk < 5 := by omega
          have hw2 : wrap64 ((q : Int) * 2) = (q : Int) * 2 := by unfold wrap64; omega
          have HKK : Hid (((q : Int) * 2) % 5 = (kk : Int)) := Lib.hid (by rw [← hkk]; simp)
          have HKT : Hid (((q : Int) * 2).tmod 5 = (kk : Int)) := Lib.hid (by rw [← hkk]; rfl)
          have tr : ((r0 : Int) == 7) = true := by rw [hr7]; rfl
          have HV := Lib.hid (And.intro hv32 hk5)
          have q4 : (q : Int) < 4 := by omega
          have hkt := HKT.out
          have hkm := HKK.out
          clear hr hq hv hkk hel heq hst hmk hr7 hv32 hq4 hk5
          by_cases hk1 : kk = 1
          · have tk1 : ((kk : Int) != 1) = false := by rw [hk1]; rfl
            clear hk1
            go_wp2
            go_roundg (200 - (k + 1))
            case measure => omega
            case rel => exact ⟨k + 1, by omega, by omega, rfl, by go_num, HI⟩
          · have tk1 : ((kk : Int) != 1) = true := by rw [bne_iff_ne]; omega
            have HK1 := Lib.hid hk1
            clear hk1
            go_wp2_with fail
            refine (store_calls b bw bb ws kk v wr (HS.out.mem.at HS.out.hp) (by rw [HS.out.lw]; have := HV.out.2; omega) (by have := HV.out.1; omega)).mono ?_; rintro e w3 ⟨rfl, hm3, hc3⟩
            obtain ⟨m3, hst3⟩ := HS.out.store hc3 hm3 (by rw [List.length_set])
            obtain ⟨m4, hst4⟩ := hst3.refset kk v (by have := HV.out.2; omega) (by have := HV.out.1; omega)
            obtain ⟨⟨cx, d0, d1, d2, d3, d4, d5, hx5⟩, ⟨rr, hx6⟩, _⟩ := hst3.ref
            have y0 : w3.cell? ⟨bx, 0, none⟩ = some (.slice (some ⟨gw, 0, none⟩) 6 cx) := by rw [← hst3.lx]; exact (hst3.hp.blk hx5).cell 0
            have hz3 := kcell hst3.hp.below HZ.out
            have hkl : kk < (wordVals ws).length := by have := HS.out.lw; have := HV.out.2; simp [wordVals]; omega
            obtain ⟨u0, y1⟩ : ∃ u, w3.cell? ⟨gw, kk, none⟩ = some u := ⟨_, by rw [(hst3.hp.blk hx6).cell, List.getElem?_append_left hkl, List.getElem?_eq_getElem hkl]⟩
            have z1 : w3.frozen? ⟨gw, kk, none⟩ = false := (hst3.hp.blk hx6).free _
            have hmk2 : (ws.set kk v).getD 1 0 < 2 ^ M := by simp only [List.getD, List.getElem?_set, HK1.out, if_false]; exact HMK.out
            have HFIN : Hid (∃ (es : List Ent) (χ : Nat → Nat) (m : HMap) (ws : List Nat) (gw' : Nat), es.length = n' ∧ (∀ e ∈ es, GRel e.o e.r) ∧ ws.getD 1 0 < 2 ^ M ∧ St W (w3.setCell ⟨gw, kk, none⟩ (.int .u64 (v : Nat))).drew χ m W.heap.size M b bw bb bx gw' gb (.slice (some ⟨g7, 0, none⟩) n' cap7) (.slice (some ⟨g8, 0, none⟩) n' cap8) ws ws (es.map Ent.bo) es) := Lib.hid ⟨es, χ, m4, ws.set kk v, gw, HEL.out, HEQ.out, hmk2, hst4.drew⟩
            have j1 : (kk : Int) < 6 := by have := HV.out.2; omega
            have j0 : (0 : Int) ≤ (kk : Int) := Int.natCast_nonneg kk
            clear hm3 hc3 hst3 hst4 hx5 hx6 hkl hz hmk2
            go_upto_region 28 with fail
            go_still_tail 11, (by as_aux_lemma => kernel_rfl)
            change wpList _ _ _ _ _ w3.drew
            go_wp2
            go_roundg (200 - (k + 1))
            case measure => omega
            case rel => exact ⟨k + 1, by omega, by omega, rfl, by go_num, HFIN⟩
        · have tr : ((r0 : Int) == 7) = false := by rw [beq_eq_false_iff_ne]; omega
          clear hr hel heq hst hmk hr7
          obtain ⟨t, htt, htl⟩ := pick_of z n' hnn.1 hnn.2
          have HT := Lib.hid htt
          clear htt
          go_upto_region 30 with fail
          rw [HT.out]
          clear hz
          have htl' : t < es.length := by rw [HEL.out]; exact htl
          obtain ⟨e, he⟩ : ∃ e, es[t]? = some e := ⟨_, List.getElem?_eq_getElem htl'⟩
          have hro := HEQ.out e (List.mem_of_getElem? he)
          obtain ⟨bo, o, r⟩ := e
          have hro : GRel o r := hro
          have HE := Lib.hid he
          have hen := HS.out.ent t _ he
          have hgi : GIn M o := hen.2.1
          have hgx : GX M o := hen.2.2
          have hlw := HS.out.lw
          obtain ⟨⟨cx, d0, d1, d2, d3, d4, d5, hx5⟩, _, hx9, _, _, hwf⟩ := HS.out.ref
          have HX5 := Lib.hid hx5
          have GBN : Hid (χ gb ≠ 0) := Lib.hid (by have h := (HS.out.hp.has _ _ _ _ hx9).2.1; omega)
          have hM14 : 1 ≤ M ∧ M ≤ 4 := ⟨HG.out.m1, HM4.out⟩
          obtain ⟨r2, hre, hcall⟩ := rstep_calls ws M o r hlw hM14 HMK.out hgi hgx hro
          have hgi2 := gin_step (A := 1) (C := 0) (ws := ws) hgi (fun i => (HS.out.ref.at HS.out.hp).getD_lt i)
          obtain ⟨hgx2, hmk2⟩ := gx_step hM14 hlw hgi hgx HMK.out
          have hln2 := gstep_len 1 M 0 o ws
          have HEN := Lib.hid (And.intro hgi hgx)
          obtain ⟨o2, ho2⟩ : ∃ x, (gstep 1 M 0 o ws).1 = x := ⟨_, rfl⟩
          obtain ⟨ws2, hws2⟩ : ∃ x, (gstep 1 M 0 o ws).2 = x := ⟨_, rfl⟩
          rw [ho2] at hre hgi2 hgx2
          rw [hws2] at hcall hmk2 hln2
          have HCALL := Lib.hid hcall
          have HRE := Lib.hid hre
          have HRP : Hid (r2.pc = o2.pc) := Lib.hid hre.2.1
          have HOK2 := Lib.hid (And.intro hgi2 (And.intro hgx2 (And.intro hln2 hmk2)))
          have HO2 := Lib.hid (And.intro ho2 hws2)
          have i1 : (t : Int) < (n' : Int) := by omega
          have i0 : (0 : Int) ≤ (t : Int) := Int.natCast_nonneg t
          clear he hen hgi hgx hlw hx5 hx9 hwf hM14 hre hcall hgi2 hgx2 hmk2 hln2 ho2 hws2 htl' hro
          go_cut [20, 21] (fun v20 v21 wx => ∃ (p q gg cg : Nat) (e0 e1 e2 e3 e4 e5 : Int), v20 = .pointer (some ⟨p, 0, none⟩) ∧ v21 = .pointer (some ⟨q, 0, none⟩) ∧ Hid (Blk wx p 44 [.int .i64 r2.kind, .int .i64 1, .int .i64 0, .int .i64 r2.k, .int .i64 r2.pc, .int .u64 r2.w, .int .u64 r2.v, .int .i64 r2.code] ∧ Blk wx q 34 [.slice (some ⟨gg, 0, none⟩) ws2.length cg, .slice (some ⟨gb, 0, none⟩) ws2.length ws2.length, .int .i64 e0, .int .i64 e1, .int .i64 e2, .int .i64 e3, .int .i64 e4, .int .i64 e5, .int .i64 (-1), .bool false] ∧ RefAt wx gg gb ws2 ∧ (gg = gw ∨ (χ gg = 0 ∧ W.heap.size ≤ gg)) ∧ χ p = 0 ∧ χ q = 0 ∧ W.heap.size ≤ p ∧ W.heap.size ≤ q ∧ p ≠ q ∧ gg ≠ p ∧ gg ≠ q ∧ St W wx χ m W.heap.size M b bw bb bx gw gb (.slice (some ⟨g7, 0, none⟩) n' cap7) (.slice (some ⟨g8, 0, none⟩) n' cap8) ws ws (es.map Ent.bo) es))
          case first =>
            refine wp_region_held_drew (S := (fun w' => w'.cell? ⟨g8, t * 8, none⟩ = some (.int .i64 r.kind) ∧ w'.cell? ⟨g8, t * 8 + 1, none⟩ = some (.int .i64 1) ∧ w'.cell? ⟨g8, t * 8 + 2, none⟩ = some (.int .i64 0) ∧ w'.cell? ⟨g8, t * 8 + 3, none⟩ = some (.int .i64 r.k) ∧ w'.cell? ⟨g8, t * 8 + 4, none⟩ = some (.int .i64 r.pc) ∧ w'.cell? ⟨g8, t * 8 + 5, none⟩ = some (.int .u64 r.w) ∧ w'.cell? ⟨g8, t * 8 + 6, none⟩ = some (.int .u64 r.v) ∧ w'.cell? ⟨g8, t * 8 + 7, none⟩ = some (.int .i64 r.code) ∧ w'.cell? ⟨bx, 0, none⟩ = some (.slice (some ⟨gw, 0, none⟩) ws.length cx) ∧ w'.cell? ⟨bx, 1, none⟩ = some (.slice (some ⟨gb, 0, none⟩) ws.length ws.length) ∧ w'.cell? ⟨bx, 2, none⟩ = some (.int .i64 d0) ∧ w'.cell? ⟨bx, 3, none⟩ = some (.int .i64 d1) ∧ w'.cell? ⟨bx, 4, none⟩ = some (.int .i64 d2) ∧ w'.cell? ⟨bx, 5, none⟩ = some (.int .i64 d3) ∧ w'.cell? ⟨bx, 6, none⟩ = some (.int .i64 d4) ∧ w'.cell? ⟨bx, 7, none⟩ = some (.int .i64 d5) ∧ w'.cell? ⟨bx, 8, none⟩ = some (.int .i64 (-1)) ∧ w'.cell? ⟨bx, 9, none⟩ = some (.bool false))) (by as_aux_lemma => kernel_rfl) (cells30 HS.out.drew HE.out HX5.out) (fun hH0 => ?_)
            refine take_first 0 (some 169) ?_ rfl rfl (by as_aux_lemma => kernel_rfl) (by as_aux_lemma => kernel_rfl) (by as_aux_lemma => kernel_rfl) (fun _ _ _ h => h) rfl ?hy hH0 ?_
            case hy => (intro w0 hS0; (try dsimp only at hS0); (try go_simp); try with_reducible rfl)
            try simp only [Act.put, List.setIfInBounds_toArray, List.set_cons_zero, List.set_cons_succ]
            refine take_first 1 (some 170) ?_ rfl rfl (by as_aux_lemma => kernel_rfl) (by as_aux_lemma => kernel_rfl) (by as_aux_lemma => kernel_rfl) (fun _ _ _ h => h) rfl ?hy hH0 ?_
            case hy => (intro w0 hS0; (try dsimp only at hS0); (try go_simp); try with_reducible rfl)
            try simp only [Act.put, List.setIfInBounds_toArray, List.set_cons_zero, List.set_cons_succ]
            refine take_first 2 (some 171) ?_ rfl rfl (by as_aux_lemma => kernel_rfl) (by as_aux_lemma => kernel_rfl) (by as_aux_lemma => kernel_rfl) (fun _ _ _ h => h) rfl ?hy hH0 ?_
            case hy => (intro w0 hS0; (try dsimp only at hS0); (try go_simp); try with_reducible rfl)
            try simp only [Act.put, List.setIfInBounds_toArray, List.set_cons_zero, List.set_cons_succ]
            refine take_first 3 (some 172) ?_ rfl rfl (by as_aux_lemma => kernel_rfl) (by as_aux_lemma => kernel_rfl) (by as_aux_lemma => kernel_rfl) (fun _ _ _ h => h) rfl ?hy hH0 ?_
            case hy => (intro w0 hS0; (try dsimp only at hS0); (try go_simp); try with_reducible rfl)
            try simp only [Act.put, List.setIfInBounds_toArray, List.set_cons_zero, List.set_cons_succ]
            refine take_first 4 (some 173) ?_ rfl rfl (by as_aux_lemma => kernel_rfl) (by as_aux_lemma => kernel_rfl) (by as_aux_lemma => kernel_rfl) (fun _ _ _ h => h) rfl ?hy hH0 ?_
            case hy => (intro w0 hS0; (try dsimp only at hS0); (try go_simp); try with_reducible rfl)
            try simp only [Act.put, List.setIfInBounds_toArray, List.set_cons_zero, List.set_cons_succ]
            refine wpAnyH_ready (rs := [5, 9, 10]) (by as_aux_lemma => kernel_rfl) (by simp) (AllReadyH.cons rfl (fun K hK => ?c5x0) (AllReadyH.cons rfl (fun K hK => ?c9x0) (AllReadyH.cons rfl (fun K hK => ?c10x0) AllReadyH.nil)))
            case c5x0 =>
              have h0 := HS.out.drew
              generalize wr.drew = wq at h0 hK ⊢
              have HSQ := Lib.hid h0
              clear h0
              go_simp
              refine (HCALL.out gw cx gb d0 d1 d2 d3 d4 d5 _ (HSQ.out.ref.at HSQ.out.hp)).mono ?_; rintro e wc hto
              obtain ⟨gg, cg, e0, e1, e2, e3, e4, e5, he, hr1, hg1, hb1⟩ := hto
              obtain rfl : e = .returned (.tuple #[.agg #[.int .i64 r2.kind, .int .i64 1, .int .i64 0, .int .i64 r2.k, .int .i64 r2.pc, .int .u64 r2.w, .int .u64 r2.v, .int .i64 r2.code], .agg #[.slice (some ⟨gg, 0, none⟩) ws2.length cg, .slice (some ⟨gb, 0, none⟩) ws2.length ws2.length, .int .i64 e0, .int .i64 e1, .int .i64 e2, .int .i64 e3, .int .i64 e4, .int .i64 e5, .int .i64 (-1), .bool false]]) := he
              have HRR := Lib.hid (And.intro hr1 (show gg = gw ∨ (χ gg = 0 ∧ W.heap.size ≤ gg) from hg1.imp id (fun h => ⟨HSQ.out.hp.fresh h, by have := HSQ.out.hp.below.size; omega⟩)))
              have HSQ := Lib.hid (HSQ.out.keep hb1)
              clear hr1 hg1 hb1
              refine hK.out _ _ (cells30 HSQ.out HE.out HX5.out) (fun hH1 => ?_)
              clear hK hH0
              try simp only [Act.put, List.setIfInBounds_toArray, List.set_cons_zero, List.set_cons_succ]
              refine take_first 6 (some 168) ?_ rfl rfl (by as_aux_lemma => kernel_rfl) (by as_aux_lemma => kernel_rfl) (by as_aux_lemma => kernel_rfl) (fun _ _ _ h => h) rfl ?hy hH1 ?_
              case hy => (intro w0 hS0; (try dsimp only at hS0); (try go_simp); try with_reducible rfl)
              try simp only [Act.put, List.setIfInBounds_toArray, List.set_cons_zero, List.set_cons_succ]
              refine take_first 7 (some 175) ?_ rfl rfl (by as_aux_lemma => kernel_rfl) (by as_aux_lemma => kernel_rfl) (by as_aux_lemma => kernel_rfl) (fun _ _ _ h => h) rfl ?hy hH1 ?_
              case hy => (intro w0 hS0; (try dsimp only at hS0); (try go_simp); try with_reducible rfl)
              try simp only [Act.put, List.setIfInBounds_toArray, List.set_cons_zero, List.set_cons_succ]
              refine take_first 8 (some 176) ?_ rfl rfl (by as_aux_lemma => kernel_rfl) (by as_aux_lemma => kernel_rfl) (by as_aux_lemma => kernel_rfl) (fun _ _ _ h => h) rfl ?hy hH1 ?_
              case hy => (intro w0 hS0; (try dsimp only at hS0); (try go_simp); try with_reducible rfl)
              try simp only [Act.put, List.setIfInBounds_toArray, List.set_cons_zero, List.set_cons_succ]
              refine wpAnyH_ready (rs := [9, 10]) (by as_aux_lemma => kernel_rfl) (by simp) (AllReadyH.cons rfl (fun K hK => ?c9x1) (AllReadyH.cons rfl (fun K hK => ?c10x1) AllReadyH.nil))
              case c9x1 =>
                go_simp
                have bn := blk_new wc 44 #[.int .i64 0, .int .i64 0, .int .i64 0, .int .i64 0, .int .i64 0, .int .u64 0, .int .u64 0, .int .i64 0] _ rfl
                have hs := HSQ.out.alloc (Obj.cells #[.int .i64 0, .int .i64 0, .int .i64 0, .int .i64 0, .int .i64 0, .int .u64 0, .int .u64 0, .int .i64 0] 44)
                have hf := HSQ.out.hp.fresh (Nat.le_refl _)
                have hge : W.heap.size ≤ wc.heap.size := HSQ.out.hp.below.size
                have hr := HRR.out.1.below (bnew (Below.refl _ _) (Obj.cells #[.int .i64 0, .int .i64 0, .int .i64 0, .int .i64 0, .int .i64 0, .int .u64 0, .int .u64 0, .int .i64 0] 44))
                generalize wc.alloc (Obj.cells #[.int .i64 0, .int .i64 0, .int .i64 0, .int .i64 0, .int .i64 0, .int .u64 0, .int .u64 0, .int .i64 0] 44) = wa at bn hs hr hK ⊢
                generalize wc.heap.size = p at bn hf hge hK ⊢
                have HSQ := Lib.hid hs
                have HBP := Lib.hid (And.intro bn (And.intro hf hge))
                have HRR := Lib.hid (And.intro hr HRR.out.2)
                clear hr
                clear bn hs hf hge
                refine hK.out _ _ (cells30 HSQ.out HE.out HX5.out) (fun hH2 => ?_)
                clear hK hH1
                try simp only [Act.put, List.setIfInBounds_toArray, List.set_cons_zero, List.set_cons_succ]
                refine wpAnyH_ready (rs := [10]) (by as_aux_lemma => kernel_rfl) (by simp) (AllReadyH.cons rfl (fun K hK => ?_) AllReadyH.nil)
                go_simp
                have bn := blk_new wa 34 #[.slice none 0 0, .slice none 0 0, .int .i64 0, .int .i64 0, .int .i64 0, .int .i64 0, .int .i64 0, .int .i64 0, .int .i64 0, .bool false] _ rfl
                have hs := HSQ.out.alloc (Obj.cells #[.slice none 0 0, .slice none 0 0, .int .i64 0, .int .i64 0, .int .i64 0, .int .i64 0, .int .i64 0, .int .i64 0, .int .i64 0, .bool false] 34)
                have hf := HSQ.out.hp.fresh (Nat.le_refl _)
                have hge : W.heap.size ≤ wa.heap.size := HSQ.out.hp.below.size
                have hr := HRR.out.1.below (bnew (Below.refl _ _) (Obj.cells #[.slice none 0 0, .slice none 0 0, .int .i64 0, .int .i64 0, .int .i64 0, .int .i64 0, .int .i64 0, .int .i64 0, .int .i64 0, .bool false] 34))
                have bo' := HBP.out.1.alloc (Obj.cells #[.slice none 0 0, .slice none 0 0, .int .i64 0, .int .i64 0, .int .i64 0, .int .i64 0, .int .i64 0, .int .i64 0, .int .i64 0, .bool false] 34)
                have hpq : wa.heap.size ≠ p := by have := HBP.out.1.lt; omega
                generalize wa.alloc (Obj.cells #[.slice none 0 0, .slice none 0 0, .int .i64 0, .int .i64 0, .int .i64 0, .int .i64 0, .int .i64 0, .int .i64 0, .int .i64 0, .bool false] 34) = wz at bn hs hr bo' hK ⊢
                generalize wa.heap.size = q at bn hf hge hpq hK ⊢
                have HSQ := Lib.hid hs
                have HBQ := Lib.hid (And.intro bn (And.intro hf hge))
                have HRR := Lib.hid (And.intro hr HRR.out.2)
                clear hr
                have HBP := Lib.hid (And.intro bo' HBP.out.2)
                have HPQ : Hid (p ≠ q) := Lib.hid hpq.symm
                clear bo' hpq
                clear bn hs hf hge
                refine hK.out _ _ (cells30 HSQ.out HE.out HX5.out) (fun hH3 => ?_)
                clear hK hH2
                try simp only [Act.put, List.setIfInBounds_toArray, List.set_cons_zero, List.set_cons_succ]
                refine wpAnyH_ready (rs := [11]) (by as_aux_lemma => kernel_rfl) (by simp) (AllReadyH.cons rfl (fun K hK => ?_) AllReadyH.nil)
                obtain ⟨y0, y1, y2, y3, y4, y5, y6, y7, z0, z1, z2, z3, z4, z5, z6, z7⟩ := cf8 HBP.out.1
                go_simp
                clear y0 z0 y1 z1 y2 z2 y3 z3 y4 z4 y5 z5 y6 z6 y7 z7
                obtain ⟨bp, hc⟩ := set8 HBP.out.1 (.int .i64 r2.kind) (.int .i64 1) (.int .i64 0) (.int .i64 r2.k) (.int .i64 r2.pc) (.int .u64 r2.w) (.int .u64 r2.v) (.int .i64 r2.code)
                have hgp := gg_ne HRR.out.1 HBP.out.1 (by decide)
                have hgq := gg_ne HRR.out.1 HBQ.out.1 (by decide)
                have bqq := HBQ.out.1.chg hc (fun e => HPQ.out e.symm)
                have hr := HRR.out.1.chg hc hgp (fun e => GBN.out (by rw [e]; exact HBP.out.2.1))
                have hs := HSQ.out.free HBP.out.2.1 HBP.out.2.2 hc
                generalize ((((((((wz.setCell ⟨p, 0, none⟩ (.int .i64 r2.kind)).setCell ⟨p, 1, none⟩ (.int .i64 1)).setCell ⟨p, 2, none⟩ (.int .i64 0)).setCell ⟨p, 3, none⟩ (.int .i64 r2.k)).setCell ⟨p, 4, none⟩ (.int .i64 r2.pc)).setCell ⟨p, 5, none⟩ (.int .u64 r2.w)).setCell ⟨p, 6, none⟩ (.int .u64 r2.v)).setCell ⟨p, 7, none⟩ (.int .i64 r2.code)) = wm at bp bqq hr hs hK ⊢
                have HSQ := Lib.hid hs
                have HBP := Lib.hid (And.intro bp HBP.out.2)
                have HBQ := Lib.hid (And.intro bqq HBQ.out.2)
                have HRR := Lib.hid (And.intro hr HRR.out.2)
                have HGN := Lib.hid (And.intro hgp hgq)
                clear bp hc bqq hr hs hgp hgq
                refine hK.out _ _ (cells30 HSQ.out HE.out HX5.out) (fun hH4 => ?_)
                clear hK hH3
                try simp only [Act.put, List.setIfInBounds_toArray, List.set_cons_zero, List.set_cons_succ]
                refine wpAnyH_ready (rs := [12]) (by as_aux_lemma => kernel_rfl) (by simp) (AllReadyH.cons rfl (fun K hK => ?_) AllReadyH.nil)
                obtain ⟨y0, y1, y2, y3, y4, y5, y6, y7, y8, y9, z0, z1, z2, z3, z4, z5, z6, z7, z8, z9⟩ := cf10 HBQ.out.1
                go_simp
                clear y0 z0 y1 z1 y2 z2 y3 z3 y4 z4 y5 z5 y6 z6 y7 z7 y8 z8 y9 z9
                obtain ⟨bqq, hc⟩ := set10 HBQ.out.1 (.slice (some ⟨gg, 0, none⟩) ws2.length cg) (.slice (some ⟨gb, 0, none⟩) ws2.length ws2.length) (.int .i64 e0) (.int .i64 e1) (.int .i64 e2) (.int .i64 e3) (.int .i64 e4) (.int .i64 e5) (.int .i64 (-1)) (.bool false)
                have bp := HBP.out.1.chg hc (fun e => HPQ.out e)
                have hr := HRR.out.1.chg hc HGN.out.2 (fun e => GBN.out (by rw [e]; exact HBQ.out.2.1))
                have hs := HSQ.out.free HBQ.out.2.1 HBQ.out.2.2 hc
                generalize ((((((((((wm.setCell ⟨q, 0, none⟩ (.slice (some ⟨gg, 0, none⟩) ws2.length cg)).setCell ⟨q, 1, none⟩ (.slice (some ⟨gb, 0, none⟩) ws2.length ws2.length)).setCell ⟨q, 2, none⟩ (.int .i64 e0)).setCell ⟨q, 3, none⟩ (.int .i64 e1)).setCell ⟨q, 4, none⟩ (.int .i64 e2)).setCell ⟨q, 5, none⟩ (.int .i64 e3)).setCell ⟨q, 6, none⟩ (.int .i64 e4)).setCell ⟨q, 7, none⟩ (.int .i64 e5)).setCell ⟨q, 8, none⟩ (.int .i64 (-1))).setCell ⟨q, 9, none⟩ (.bool false)) = wn at bp bqq hr hs hK ⊢
                have HFR := Lib.hid (And.intro bp (And.intro bqq (And.intro hr (And.intro HRR.out.2 (And.intro HBP.out.2.1 (And.intro HBQ.out.2.1 (And.intro HBP.out.2.2 (And.intro HBQ.out.2.2 (And.intro HPQ.out (And.intro HGN.out.1 (And.intro HGN.out.2 hs)))))))))))
                have HSQ := Lib.hid hs
                clear bp hc bqq hr hs
                refine hK.out _ _ (cells30 HSQ.out HE.out HX5.out) (fun hH5 => ?_)
                clear hK hH4
                try simp only [Act.put, List.setIfInBounds_toArray, List.set_cons_zero, List.set_cons_succ]
                refine wpAnyH_done (by as_aux_lemma => kernel_rfl) ?_ _
                clear hH5 HSQ HBP HBQ HRR HPQ HGN
                go_wp2
                go_meet
                case rel => exact ⟨p, q, gg, cg, e0, e1, e2, e3, e4, e5, rfl, rfl, HFR⟩
              case c10x1 =>
                go_simp
                have bn := blk_new wc 34 #[.slice none 0 0, .slice none 0 0, .int .i64 0, .int .i64 0, .int .i64 0, .int .i64 0, .int .i64 0, .int .i64 0, .int .i64 0, .bool false] _ rfl
                have hs := HSQ.out.alloc (Obj.cells #[.slice none 0 0, .slice none 0 0, .int .i64 0, .int .i64 0, .int .i64 0, .int .i64 0, .int .i64 0, .int .i64 0, .int .i64 0, .bool false] 34)
                have hf := HSQ.out.hp.fresh (Nat.le_refl _)
                have hge : W.heap.size ≤ wc.heap.size := HSQ.out.hp.below.size
                have hr := HRR.out.1.below (bnew (Below.refl _ _) (Obj.cells #[.slice none 0 0, .slice none 0 0, .int .i64 0, .int .i64 0, .int .i64 0, .int .i64 0, .int .i64 0, .int .i64 0, .int .i64 0, .bool false] 34))
                generalize wc.alloc (Obj.cells #[.slice none 0 0, .slice none 0 0, .int .i64 0, .int .i64 0, .int .i64 0, .int .i64 0, .int .i64 0, .int .i64 0, .int .i64 0, .bool false] 34) = wz at bn hs hr hK ⊢
                generalize wc.heap.size = q at bn hf hge hK ⊢
                have HSQ := Lib.hid hs
                have HBQ := Lib.hid (And.intro bn (And.intro hf hge))
                have HRR := Lib.hid (And.intro hr HRR.out.2)
                clear hr
                clear bn hs hf hge
                refine hK.out _ _ (cells30 HSQ.out HE.out HX5.out) (fun hH2 => ?_)
                clear hK hH1
                try simp only [Act.put, List.setIfInBounds_toArray, List.set_cons_zero, List.set_cons_succ]
                refine wpAnyH_ready (rs := [9]) (by as_aux_lemma => kernel_rfl) (by simp) (AllReadyH.cons rfl (fun K hK => ?_) AllReadyH.nil)
                go_simp
                have bn := blk_new wz 44 #[.int .i64 0, .int .i64 0, .int .i64 0, .int .i64 0, .int .i64 0, .int .u64 0, .int .u64 0, .int .i64 0] _ rfl
                have hs := HSQ.out.alloc (Obj.cells #[.int .i64 0, .int .i64 0, .int .i64 0, .int .i64 0, .int .i64 0, .int .u64 0, .int .u64 0, .int .i64 0] 44)
                have hf := HSQ.out.hp.fresh (Nat.le_refl _)
                have hge : W.heap.size ≤ wz.heap.size := HSQ.out.hp.below.size
                have hr := HRR.out.1.below (bnew (Below.refl _ _) (Obj.cells #[.int .i64 0, .int .i64 0, .int .i64 0, .int .i64 0, .int .i64 0, .int .u64 0, .int .u64 0, .int .i64 0] 44))
                have bo' := HBQ.out.1.alloc (Obj.cells #[.int .i64 0, .int .i64 0, .int .i64 0, .int .i64 0, .int .i64 0, .int .u64 0, .int .u64 0, .int .i64 0] 44)
                have hpq : wz.heap.size ≠ q := by have := HBQ.out.1.lt; omega
                generalize wz.alloc (Obj.cells #[.int .i64 0, .int .i64 0, .int .i64 0, .int .i64 0, .int .i64 0, .int .u64 0, .int .u64 0, .int .i64 0] 44) = wa at bn hs hr bo' hK ⊢
                generalize wz.heap.size = p at bn hf hge hpq hK ⊢
                have HSQ := Lib.hid hs
                have HBP := Lib.hid (And.intro bn (And.intro hf hge))
                have HRR := Lib.hid (And.intro hr HRR.out.2)
                clear hr
                have HBQ := Lib.hid (And.intro bo' HBQ.out.2)
                have HPQ : Hid (p ≠ q) := Lib.hid hpq
                clear bo' hpq
                clear bn hs hf hge
                refine hK.out _ _ (cells30 HSQ.out HE.out HX5.out) (fun hH3 => ?_)
                clear hK hH2
                try simp only [Act.put, List.setIfInBounds_toArray, List.set_cons_zero, List.set_cons_succ]
                refine wpAnyH_ready (rs := [11]) (by as_aux_lemma => kernel_rfl) (by simp) (AllReadyH.cons rfl (fun K hK => ?_) AllReadyH.nil)
                obtain ⟨y0, y1, y2, y3, y4, y5, y6, y7, z0, z1, z2, z3, z4, z5, z6, z7⟩ := cf8 HBP.out.1
                go_simp
                clear y0 z0 y1 z1 y2 z2 y3 z3 y4 z4 y5 z5 y6 z6 y7 z7
                obtain ⟨bp, hc⟩ := set8 HBP.out.1 (.int .i64 r2.kind) (.int .i64 1) (.int .i64 0) (.int .i64 r2.k) (.int .i64 r2.pc) (.int .u64 r2.w) (.int .u64 r2.v) (.int .i64 r2.code)
                have hgp := gg_ne HRR.out.1 HBP.out.1 (by decide)
                have hgq := gg_ne HRR.out.1 HBQ.out.1 (by decide)
                have bqq := HBQ.out.1.chg hc (fun e => HPQ.out e.symm)
                have hr := HRR.out.1.chg hc hgp (fun e => GBN.out (by rw [e]; exact HBP.out.2.1))
                have hs := HSQ.out.free HBP.out.2.1 HBP.out.2.2 hc
                generalize ((((((((wa.setCell ⟨p, 0, none⟩ (.int .i64 r2.kind)).setCell ⟨p, 1, none⟩ (.int .i64 1)).setCell ⟨p, 2, none⟩ (.int .i64 0)).setCell ⟨p, 3, none⟩ (.int .i64 r2.k)).setCell ⟨p, 4, none⟩ (.int .i64 r2.pc)).setCell ⟨p, 5, none⟩ (.int .u64 r2.w)).setCell ⟨p, 6, none⟩ (.int .u64 r2.v)).setCell ⟨p, 7, none⟩ (.int .i64 r2.code)) = wm at bp bqq hr hs hK ⊢
                have HSQ := Lib.hid hs
                have HBP := Lib.hid (And.intro bp HBP.out.2)
                have HBQ := Lib.hid (And.intro bqq HBQ.out.2)
                have HRR := Lib.hid (And.intro hr HRR.out.2)
                have HGN := Lib.hid (And.intro hgp hgq)
                clear bp hc bqq hr hs hgp hgq
                refine hK.out _ _ (cells30 HSQ.out HE.out HX5.out) (fun hH4 => ?_)
                clear hK hH3
                try simp only [Act.put, List.setIfInBounds_toArray, List.set_cons_zero, List.set_cons_succ]
                refine wpAnyH_ready (rs := [12]) (by as_aux_lemma => kernel_rfl) (by simp) (AllReadyH.cons rfl (fun K hK => ?_) AllReadyH.nil)
                obtain ⟨y0, y1, y2, y3, y4, y5, y6, y7, y8, y9, z0, z1, z2, z3, z4, z5, z6, z7, z8, z9⟩ := cf10 HBQ.out.1
                go_simp
                clear y0 z0 y1 z1 y2 z2 y3 z3 y4 z4 y5 z5 y6 z6 y7 z7 y8 z8 y9 z9
                obtain ⟨bqq, hc⟩ := set10 HBQ.out.1 (.slice (some ⟨gg, 0, none⟩) ws2.length cg) (.slice (some ⟨gb, 0, none⟩) ws2.length ws2.length) (.int .i64 e0) (.int .i64 e1) (.int .i64 e2) (.int .i64 e3) (.int .i64 e4) (.int .i64 e5) (.int .i64 (-1)) (.bool false)
                have bp := HBP.out.1.chg hc (fun e => HPQ.out e)
                have hr := HRR.out.1.chg hc HGN.out.2 (fun e => GBN.out (by rw [e]; exact HBQ.out.2.1))
                have hs := HSQ.out.free HBQ.out.2.1 HBQ.out.2.2 hc
                generalize ((((((((((wm.setCell ⟨q, 0, none⟩ (.slice (some ⟨gg, 0, none⟩) ws2.length cg)).setCell ⟨q, 1, none⟩ (.slice (some ⟨gb, 0, none⟩) ws2.length ws2.length)).setCell ⟨q, 2, none⟩ (.int .i64 e0)).setCell ⟨q, 3, none⟩ (.int .i64 e1)).setCell ⟨q, 4, none⟩ (.int .i64 e2)).setCell ⟨q, 5, none⟩ (.int .i64 e3)).setCell ⟨q, 6, none⟩ (.int .i64 e4)).setCell ⟨q, 7, none⟩ (.int .i64 e5)).setCell ⟨q, 8, none⟩ (.int .i64 (-1))).setCell ⟨q, 9, none⟩ (.bool false)) = wn at bp bqq hr hs hK ⊢
                have HFR := Lib.hid (And.intro bp (And.intro bqq (And.intro hr (And.intro HRR.out.2 (And.intro HBP.out.2.1 (And.intro HBQ.out.2.1 (And.intro HBP.out.2.2 (And.intro HBQ.out.2.2 (And.intro HPQ.out (And.intro HGN.out.1 (And.intro HGN.out.2 hs)))))))))))
                have HSQ := Lib.hid hs
                clear bp hc bqq hr hs
                refine hK.out _ _ (cells30 HSQ.out HE.out HX5.out) (fun hH5 => ?_)
                clear hK hH4
                try simp only [Act.put, List.setIfInBounds_toArray, List.set_cons_zero, List.set_cons_succ]
                refine wpAnyH_done (by as_aux_lemma => kernel_rfl) ?_ _
                clear hH5 HSQ HBP HBQ HRR HPQ HGN
                go_wp2
                go_meet
                case rel => exact ⟨p, q, gg, cg, e0, e1, e2, e3, e4, e5, rfl, rfl, HFR⟩
            case c9x0 =>
              have h0 := HS.out.drew
              generalize wr.drew = wq at h0 hK ⊢
              have HSQ := Lib.hid h0
              clear h0
              go_simp
              have bn := blk_new wq 44 #[.int .i64 0, .int .i64 0, .int .i64 0, .int .i64 0, .int .i64 0, .int .u64 0, .int .u64 0, .int .i64 0] _ rfl
              have hs := HSQ.out.alloc (Obj.cells #[.int .i64 0, .int .i64 0, .int .i64 0, .int .i64 0, .int .i64 0, .int .u64 0, .int .u64 0, .int .i64 0] 44)
              have hf := HSQ.out.hp.fresh (Nat.le_refl _)
              have hge : W.heap.size ≤ wq.heap.size := HSQ.out.hp.below.size
              generalize wq.alloc (Obj.cells #[.int .i64 0, .int .i64 0, .int .i64 0, .int .i64 0, .int .i64 0, .int .u64 0, .int .u64 0, .int .i64 0] 44) = wa at bn hs hK ⊢
              generalize wq.heap.size = p at bn hf hge hK ⊢
              have HSQ := Lib.hid hs
              have HBP := Lib.hid (And.intro bn (And.intro hf hge))
              clear bn hs hf hge
              refine hK.out _ _ (cells30 HSQ.out HE.out HX5.out) (fun hH1 => ?_)
              clear hK hH0
              try simp only [Act.put, List.setIfInBounds_toArray, List.set_cons_zero, List.set_cons_succ]
              refine wpAnyH_ready (rs := [5, 10]) (by as_aux_lemma => kernel_rfl) (by simp) (AllReadyH.cons rfl (fun K hK => ?c5x1) (AllReadyH.cons rfl (fun K hK => ?c10x1) AllReadyH.nil))
              case c5x1 =>
                go_simp
                refine (HCALL.out gw cx gb d0 d1 d2 d3 d4 d5 _ (HSQ.out.ref.at HSQ.out.hp)).mono ?_; rintro e wc hto
                obtain ⟨gg, cg, e0, e1, e2, e3, e4, e5, he, hr1, hg1, hb1⟩ := hto
                obtain rfl : e = .returned (.tuple #[.agg #[.int .i64 r2.kind, .int .i64 1, .int .i64 0, .int .i64 r2.k, .int .i64 r2.pc, .int .u64 r2.w, .int .u64 r2.v, .int .i64 r2.code], .agg #[.slice (some ⟨gg, 0, none⟩) ws2.length cg, .slice (some ⟨gb, 0, none⟩) ws2.length ws2.length, .int .i64 e0, .int .i64 e1, .int .i64 e2, .int .i64 e3, .int .i64 e4, .int .i64 e5, .int .i64 (-1), .bool false]]) := he
                have HRR := Lib.hid (And.intro hr1 (show gg = gw ∨ (χ gg = 0 ∧ W.heap.size ≤ gg) from hg1.imp id (fun h => ⟨HSQ.out.hp.fresh h, by have := HSQ.out.hp.below.size; omega⟩)))
                have HSQ := Lib.hid (HSQ.out.keep hb1)
                have HBP := Lib.hid (And.intro (HBP.out.1.chg (chg_of_below (fun _ => False) hb1) (fun h => h)) HBP.out.2)
                clear hr1 hg1 hb1
                refine hK.out _ _ (cells30 HSQ.out HE.out HX5.out) (fun hH2 => ?_)
                clear hK hH1
                try simp only [Act.put, List.setIfInBounds_toArray, List.set_cons_zero, List.set_cons_succ]
                refine take_first 6 (some 168) ?_ rfl rfl (by as_aux_lemma => kernel_rfl) (by as_aux_lemma => kernel_rfl) (by as_aux_lemma => kernel_rfl) (fun _ _ _ h => h) rfl ?hy hH2 ?_
                case hy => (intro w0 hS0; (try dsimp only at hS0); (try go_simp); try with_reducible rfl)
                try simp only [Act.put, List.setIfInBounds_toArray, List.set_cons_zero, List.set_cons_succ]
                refine take_first 7 (some 175) ?_ rfl rfl (by as_aux_lemma => kernel_rfl) (by as_aux_lemma => kernel_rfl) (by as_aux_lemma => kernel_rfl) (fun _ _ _ h => h) rfl ?hy hH2 ?_
                case hy => (intro w0 hS0; (try dsimp only at hS0); (try go_simp); try with_reducible rfl)
                try simp only [Act.put, List.setIfInBounds_toArray, List.set_cons_zero, List.set_cons_succ]
                refine take_first 8 (some 176) ?_ rfl rfl (by as_aux_lemma => kernel_rfl) (by as_aux_lemma => kernel_rfl) (by as_aux_lemma => kernel_rfl) (fun _ _ _ h => h) rfl ?hy hH2 ?_
                case hy => (intro w0 hS0; (try dsimp only at hS0); (try go_simp); try with_reducible rfl)
                try simp only [Act.put, List.setIfInBounds_toArray, List.set_cons_zero, List.set_cons_succ]
                refine wpAnyH_ready (rs := [10]) (by as_aux_lemma => kernel_rfl) (by simp) (AllReadyH.cons rfl (fun K hK => ?_) AllReadyH.nil)
                go_simp
                have bn := blk_new wc 34 #[.slice none 0 0, .slice none 0 0, .int .i64 0, .int .i64 0, .int .i64 0, .int .i64 0, .int .i64 0, .int .i64 0, .int .i64 0, .bool false] _ rfl
                have hs := HSQ.out.alloc (Obj.cells #[.slice none 0 0, .slice none 0 0, .int .i64 0, .int .i64 0, .int .i64 0, .int .i64 0, .int .i64 0, .int .i64 0, .int .i64 0, .bool false] 34)
                have hf := HSQ.out.hp.fresh (Nat.le_refl _)
                have hge : W.heap.size ≤ wc.heap.size := HSQ.out.hp.below.size
                have hr := HRR.out.1.below (bnew (Below.refl _ _) (Obj.cells #[.slice none 0 0, .slice none 0 0, .int .i64 0, .int .i64 0, .int .i64 0, .int .i64 0, .int .i64 0, .int .i64 0, .int .i64 0, .bool false] 34))
                have bo' := HBP.out.1.alloc (Obj.cells #[.slice none 0 0, .slice none 0 0, .int .i64 0, .int .i64 0, .int .i64 0, .int .i64 0, .int .i64 0, .int .i64 0, .int .i64 0, .bool false] 34)
                have hpq : wc.heap.size ≠ p := by have := HBP.out.1.lt; omega
                generalize wc.alloc (Obj.cells #[.slice none 0 0, .slice none 0 0, .int .i64 0, .int .i64 0, .int .i64 0, .int .i64 0, .int .i64 0, .int .i64 0, .int .i64 0, .bool false] 34) = wz at bn hs hr bo' hK ⊢
                generalize wc.heap.size = q at bn hf hge hpq hK ⊢
                have HSQ := Lib.hid hs
                have HBQ := Lib.hid (And.intro bn (And.intro hf hge))
                have HRR := Lib.hid (And.intro hr HRR.out.2)
                clear hr
                have HBP := Lib.hid (And.intro bo' HBP.out.2)
                have HPQ : Hid (p ≠ q) := Lib.hid hpq.symm
                clear bo' hpq
                clear bn hs hf hge
                refine hK.out _ _ (cells30 HSQ.out HE.out HX5.out) (fun hH3 => ?_)
                clear hK hH2
                try simp only [Act.put, List.setIfInBounds_toArray, List.set_cons_zero, List.set_cons_succ]
                refine wpAnyH_ready (rs := [11]) (by as_aux_lemma => kernel_rfl) (by simp) (AllReadyH.cons rfl (fun K hK => ?_) AllReadyH.nil)
                obtain ⟨y0, y1, y2, y3, y4, y5, y6, y7, z0, z1, z2, z3, z4, z5, z6, z7⟩ := cf8 HBP.out.1
                go_simp
                clear y0 z0 y1 z1 y2 z2 y3 z3 y4 z4 y5 z5 y6 z6 y7 z7
                obtain ⟨bp, hc⟩ := set8 HBP.out.1 (.int .i64 r2.kind) (.int .i64 1) (.int .i64 0) (.int .i64 r2.k) (.int .i64 r2.pc) (.int .u64 r2.w) (.int .u64 r2.v) (.int .i64 r2.code)
                have hgp := gg_ne HRR.out.1 HBP.out.1 (by decide)
                have hgq := gg_ne HRR.out.1 HBQ.out.1 (by decide)
                have bqq := HBQ.out.1.chg hc (fun e => HPQ.out e.symm)
                have hr := HRR.out.1.chg hc hgp (fun e => GBN.out (by rw [e]; exact HBP.out.2.1))
                have hs := HSQ.out.free HBP.out.2.1 HBP.out.2.2 hc
                generalize ((((((((wz.setCell ⟨p, 0, none⟩ (.int .i64 r2.kind)).setCell ⟨p, 1, none⟩ (.int .i64 1)).setCell ⟨p, 2, none⟩ (.int .i64 0)).setCell ⟨p, 3, none⟩ (.int .i64 r2.k)).setCell ⟨p, 4, none⟩ (.int .i64 r2.pc)).setCell ⟨p, 5, none⟩ (.int .u64 r2.w)).setCell ⟨p, 6, none⟩ (.int .u64 r2.v)).setCell ⟨p, 7, none⟩ (.int .i64 r2.code)) = wm at bp bqq hr hs hK ⊢
                have HSQ := Lib.hid hs
                have HBP := Lib.hid (And.intro bp HBP.out.2)
                have HBQ := Lib.hid (And.intro bqq HBQ.out.2)
                have HRR := Lib.hid (And.intro hr HRR.out.2)
                have HGN := Lib.hid (And.intro hgp hgq)
                clear bp hc bqq hr hs hgp hgq
                refine hK.out _ _ (cells30 HSQ.out HE.out HX5.out) (fun hH4 => ?_)
                clear hK hH3
                try simp only [Act.put, List.setIfInBounds_toArray, List.set_cons_zero, List.set_cons_succ]
                refine wpAnyH_ready (rs := [12]) (by as_aux_lemma => kernel_rfl) (by simp) (AllReadyH.cons rfl (fun K hK => ?_) AllReadyH.nil)
                obtain ⟨y0, y1, y2, y3, y4, y5, y6, y7, y8, y9, z0, z1, z2, z3, z4, z5, z6, z7, z8, z9⟩ := cf10 HBQ.out.1
                go_simp
                clear y0 z0 y1 z1 y2 z2 y3 z3 y4 z4 y5 z5 y6 z6 y7 z7 y8 z8 y9 z9
                obtain ⟨bqq, hc⟩ := set10 HBQ.out.1 (.slice (some ⟨gg, 0, none⟩) ws2.length cg) (.slice (some ⟨gb, 0, none⟩) ws2.length ws2.length) (.int .i64 e0) (.int .i64 e1) (.int .i64 e2) (.int .i64 e3) (.int .i64 e4) (.int .i64 e5) (.int .i64 (-1)) (.bool false)
                have bp := HBP.out.1.chg hc (fun e => HPQ.out e)
                have hr := HRR.out.1.chg hc HGN.out.2 (fun e => GBN.out (by rw [e]; exact HBQ.out.2.1))
                have hs := HSQ.out.free HBQ.out.2.1 HBQ.out.2.2 hc
                generalize ((((((((((wm.setCell ⟨q, 0, none⟩ (.slice (some ⟨gg, 0, none⟩) ws2.length cg)).setCell ⟨q, 1, none⟩ (.slice (some ⟨gb, 0, none⟩) ws2.length ws2.length)).setCell ⟨q, 2, none⟩ (.int .i64 e0)).setCell ⟨q, 3, none⟩ (.int .i64 e1)).setCell ⟨q, 4, none⟩ (.int .i64 e2)).setCell ⟨q, 5, none⟩ (.int .i64 e3)).setCell ⟨q, 6, none⟩ (.int .i64 e4)).setCell ⟨q, 7, none⟩ (.int .i64 e5)).setCell ⟨q, 8, none⟩ (.int .i64 (-1))).setCell ⟨q, 9, none⟩ (.bool false)) = wn at bp bqq hr hs hK ⊢
                have HFR := Lib.hid (And.intro bp (And.intro bqq (And.intro hr (And.intro HRR.out.2 (And.intro HBP.out.2.1 (And.intro HBQ.out.2.1 (And.intro HBP.out.2.2 (And.intro HBQ.out.2.2 (And.intro HPQ.out (And.intro HGN.out.1 (And.intro HGN.out.2 hs)))))))))))
                have HSQ := Lib.hid hs
                clear bp hc bqq hr hs
                refine hK.out _ _ (cells30 HSQ.out HE.out HX5.out) (fun hH5 => ?_)
                clear hK hH4
                try simp only [Act.put, List.setIfInBounds_toArray, List.set_cons_zero, List.set_cons_succ]
                refine wpAnyH_done (by as_aux_lemma => kernel_rfl) ?_ _
                clear hH5 HSQ HBP HBQ HRR HPQ HGN
                go_wp2
                go_meet
                case rel => exact ⟨p, q, gg, cg, e0, e1, e2, e3, e4, e5, rfl, rfl, HFR⟩
              case c10x1 =>
                go_simp
                have bn := blk_new wa 34 #[.slice none 0 0, .slice none 0 0, .int .i64 0, .int .i64 0, .int .i64 0, .int .i64 0, .int .i64 0, .int .i64 0, .int .i64 0, .bool false] _ rfl
                have hs := HSQ.out.alloc (Obj.cells #[.slice none 0 0, .slice none 0 0, .int .i64 0, .int .i64 0, .int .i64 0, .int .i64 0, .int .i64 0, .int .i64 0, .int .i64 0, .bool false] 34)
                have hf := HSQ.out.hp.fresh (Nat.le_refl _)
                have hge : W.heap.size ≤ wa.heap.size := HSQ.out.hp.below.size
                have bo' := HBP.out.1.alloc (Obj.cells #[.slice none 0 0, .slice none 0 0, .int .i64 0, .int .i64 0, .int .i64 0, .int .i64 0, .int .i64 0, .int .i64 0, .int .i64 0, .bool false] 34)
                have hpq : wa.heap.size ≠ p := by have := HBP.out.1.lt; omega
                generalize wa.alloc (Obj.cells #[.slice none 0 0, .slice none 0 0, .int .i64 0, .int .i64 0, .int .i64 0, .int .i64 0, .int .i64 0, .int .i64 0, .int .i64 0, .bool false] 34) = wz at bn hs bo' hK ⊢
                generalize wa.heap.size = q at bn hf hge hpq hK ⊢
                have HSQ := Lib.hid hs
                have HBQ := Lib.hid (And.intro bn (And.intro hf hge))
                have HBP := Lib.hid (And.intro bo' HBP.out.2)
                have HPQ : Hid (p ≠ q) := Lib.hid hpq.symm
                clear bo' hpq
                clear bn hs hf hge
                refine hK.out _ _ (cells30 HSQ.out HE.out HX5.out) (fun hH2 => ?_)
                clear hK hH1
                try simp only [Act.put, List.setIfInBounds_toArray, List.set_cons_zero, List.set_cons_succ]
                refine wpAnyH_ready (rs := [5]) (by as_aux_lemma => kernel_rfl) (by simp) (AllReadyH.cons rfl (fun K hK => ?_) AllReadyH.nil)
                go_simp
                refine (HCALL.out gw cx gb d0 d1 d2 d3 d4 d5 _ (HSQ.out.ref.at HSQ.out.hp)).mono ?_; rintro e wc hto
                obtain ⟨gg, cg, e0, e1, e2, e3, e4, e5, he, hr1, hg1, hb1⟩ := hto
                obtain rfl : e = .returned (.tuple #[.agg #[.int .i64 r2.kind, .int .i64 1, .int .i64 0, .int .i64 r2.k, .int .i64 r2.pc, .int .u64 r2.w, .int .u64 r2.v, .int .i64 r2.code], .agg #[.slice (some ⟨gg, 0, none⟩) ws2.length cg, .slice (some ⟨gb, 0, none⟩) ws2.length ws2.length, .int .i64 e0, .int .i64 e1, .int .i64 e2, .int .i64 e3, .int .i64 e4, .int .i64 e5, .int .i64 (-1), .bool false]]) := he
                have HRR := Lib.hid (And.intro hr1 (show gg = gw ∨ (χ gg = 0 ∧ W.heap.size ≤ gg) from hg1.imp id (fun h => ⟨HSQ.out.hp.fresh h, by have := HSQ.out.hp.below.size; omega⟩)))
                have HSQ := Lib.hid (HSQ.out.keep hb1)
                have HBP := Lib.hid (And.intro (HBP.out.1.chg (chg_of_below (fun _ => False) hb1) (fun h => h)) HBP.out.2)
                have HBQ := Lib.hid (And.intro (HBQ.out.1.chg (chg_of_below (fun _ => False) hb1) (fun h => h)) HBQ.out.2)
                clear hr1 hg1 hb1
                refine hK.out _ _ (cells30 HSQ.out HE.out HX5.out) (fun hH3 => ?_)
                clear hK hH2
                try simp only [Act.put, List.setIfInBounds_toArray, List.set_cons_zero, List.set_cons_succ]
                refine take_first 6 (some 168) ?_ rfl rfl (by as_aux_lemma => kernel_rfl) (by as_aux_lemma => kernel_rfl) (by as_aux_lemma => kernel_rfl) (fun _ _ _ h => h) rfl ?hy hH3 ?_
                case hy => (intro w0 hS0; (try dsimp only at hS0); (try go_simp); try with_reducible rfl)
                try simp only [Act.put, List.setIfInBounds_toArray, List.set_cons_zero, List.set_cons_succ]
                refine take_first 7 (some 175) ?_ rfl rfl (by as_aux_lemma => kernel_rfl) (by as_aux_lemma => kernel_rfl) (by as_aux_lemma => kernel_rfl) (fun _ _ _ h => h) rfl ?hy hH3 ?_
                case hy => (intro w0 hS0; (try dsimp only at hS0); (try go_simp); try with_reducible rfl)
                try simp only [Act.put, List.setIfInBounds_toArray, List.set_cons_zero, List.set_cons_succ]
                refine take_first 8 (some 176) ?_ rfl rfl (by as_aux_lemma => kernel_rfl) (by as_aux_lemma => kernel_rfl) (by as_aux_lemma => kernel_rfl) (fun _ _ _ h => h) rfl ?hy hH3 ?_
                case hy => (intro w0 hS0; (try dsimp only at hS0); (try go_simp); try with_reducible rfl)
                try simp only [Act.put, List.setIfInBounds_toArray, List.set_cons_zero, List.set_cons_succ]
                refine wpAnyH_ready (rs := [11]) (by as_aux_lemma => kernel_rfl) (by simp) (AllReadyH.cons rfl (fun K hK => ?_) AllReadyH.nil)
                obtain ⟨y0, y1, y2, y3, y4, y5, y6, y7, z0, z1, z2, z3, z4, z5, z6, z7⟩ := cf8 HBP.out.1
                go_simp
                clear y0 z0 y1 z1 y2 z2 y3 z3 y4 z4 y5 z5 y6 z6 y7 z7
                obtain ⟨bp, hc⟩ := set8 HBP.out.1 (.int .i64 r2.kind) (.int .i64 1) (.int .i64 0) (.int .i64 r2.k) (.int .i64 r2.pc) (.int .u64 r2.w) (.int .u64 r2.v) (.int .i64 r2.code)
                have hgp := gg_ne HRR.out.1 HBP.out.1 (by decide)
                have hgq := gg_ne HRR.out.1 HBQ.out.1 (by decide)
                have bqq := HBQ.out.1.chg hc (fun e => HPQ.out e.symm)
                have hr := HRR.out.1.chg hc hgp (fun e => GBN.out (by rw [e]; exact HBP.out.2.1))
                have hs := HSQ.out.free HBP.out.2.1 HBP.out.2.2 hc
                generalize ((((((((wc.setCell ⟨p, 0, none⟩ (.int .i64 r2.kind)).setCell ⟨p, 1, none⟩ (.int .i64 1)).setCell ⟨p, 2, none⟩ (.int .i64 0)).setCell ⟨p, 3, none⟩ (.int .i64 r2.k)).setCell ⟨p, 4, none⟩ (.int .i64 r2.pc)).setCell ⟨p, 5, none⟩ (.int .u64 r2.w)).setCell ⟨p, 6, none⟩ (.int .u64 r2.v)).setCell ⟨p, 7, none⟩ (.int .i64 r2.code)) = wm at bp bqq hr hs hK ⊢
                have HSQ := Lib.hid hs
                have HBP := Lib.hid (And.intro bp HBP.out.2)
                have HBQ := Lib.hid (And.intro bqq HBQ.out.2)
                have HRR := Lib.hid (And.intro hr HRR.out.2)
                have HGN := Lib.hid (And.intro hgp hgq)
                clear bp hc bqq hr hs hgp hgq
                refine hK.out _ _ (cells30 HSQ.out HE.out HX5.out) (fun hH4 => ?_)
                clear hK hH3
                try simp only [Act.put, List.setIfInBounds_toArray, List.set_cons_zero, List.set_cons_succ]
                refine wpAnyH_ready (rs := [12]) (by as_aux_lemma => kernel_rfl) (by simp) (AllReadyH.cons rfl (fun K hK => ?_) AllReadyH.nil)
                obtain ⟨y0, y1, y2, y3, y4, y5, y6, y7, y8, y9, z0, z1, z2, z3, z4, z5, z6, z7, z8, z9⟩ := cf10 HBQ.out.1
                go_simp
                clear y0 z0 y1 z1 y2 z2 y3 z3 y4 z4 y5 z5 y6 z6 y7 z7 y8 z8 y9 z9
                obtain ⟨bqq, hc⟩ := set10 HBQ.out.1 (.slice (some ⟨gg, 0, none⟩) ws2.length cg) (.slice (some ⟨gb, 0, none⟩) ws2.length ws2.length) (.int .i64 e0) (.int .i64 e1) (.int .i64 e2) (.int .i64 e3) (.int .i64 e4) (.int .i64 e5) (.int .i64 (-1)) (.bool false)
                have bp := HBP.out.1.chg hc (fun e => HPQ.out e)
                have hr := HRR.out.1.chg hc HGN.out.2 (fun e => GBN.out (by rw [e]; exact HBQ.out.2.1))
                have hs := HSQ.out.free HBQ.out.2.1 HBQ.out.2.2 hc
                generalize ((((((((((wm.setCell ⟨q, 0, none⟩ (.slice (some ⟨gg, 0, none⟩) ws2.length cg)).setCell ⟨q, 1, none⟩ (.slice (some ⟨gb, 0, none⟩) ws2.length ws2.length)).setCell ⟨q, 2, none⟩ (.int .i64 e0)).setCell ⟨q, 3, none⟩ (.int .i64 e1)).setCell ⟨q, 4, none⟩ (.int .i64 e2)).setCell ⟨q, 5, none⟩ (.int .i64 e3)).setCell ⟨q, 6, none⟩ (.int .i64 e4)).setCell ⟨q, 7, none⟩ (.int .i64 e5)).setCell ⟨q, 8, none⟩ (.int .i64 (-1))).setCell ⟨q, 9, none⟩ (.bool false)) = wn at bp bqq hr hs hK ⊢
                have HFR := Lib.hid (And.intro bp (And.intro bqq (And.intro hr (And.intro HRR.out.2 (And.intro HBP.out.2.1 (And.intro HBQ.out.2.1 (And.intro HBP.out.2.2 (And.intro HBQ.out.2.2 (And.intro HPQ.out (And.intro HGN.out.1 (And.intro HGN.out.2 hs)))))))))))
                have HSQ := Lib.hid hs
                clear bp hc bqq hr hs
                refine hK.out _ _ (cells30 HSQ.out HE.out HX5.out) (fun hH5 => ?_)
                clear hK hH4
                try simp only [Act.put, List.setIfInBounds_toArray, List.set_cons_zero, List.set_cons_succ]
                refine wpAnyH_done (by as_aux_lemma => kernel_rfl) ?_ _
                clear hH5 HSQ HBP HBQ HRR HPQ HGN
                go_wp2
                go_meet
                case rel => exact ⟨p, q, gg, cg, e0, e1, e2, e3, e4, e5, rfl, rfl, HFR⟩
            case c10x0 =>
              have h0 := HS.out.drew
              generalize wr.drew = wq at h0 hK ⊢
              have HSQ := Lib.hid h0
              clear h0
              go_simp
              have bn := blk_new wq 34 #[.slice none 0 0, .slice none 0 0, .int .i64 0, .int .i64 0, .int .i64 0, .int .i64 0, .int .i64 0, .int .i64 0, .int .i64 0, .bool false] _ rfl
              have hs := HSQ.out.alloc (Obj.cells #[.slice none 0 0, .slice none 0 0, .int .i64 0, .int .i64 0, .int .i64 0, .int .i64 0, .int .i64 0, .int .i64 0, .int .i64 0, .bool false] 34)
              have hf := HSQ.out.hp.fresh (Nat.le_refl _)
              have hge : W.heap.size ≤ wq.heap.size := HSQ.out.hp.below.size
              generalize wq.alloc (Obj.cells #[.slice none 0 0, .slice none 0 0, .int .i64 0, .int .i64 0, .int .i64 0, .int .i64 0, .int .i64 0, .int .i64 0, .int .i64 0, .bool false] 34) = wz at bn hs hK ⊢
              generalize wq.heap.size = q at bn hf hge hK ⊢
              have HSQ := Lib.hid hs
              have HBQ := Lib.hid (And.intro bn (And.intro hf hge))
              clear bn hs hf hge
              refine hK.out _ _ (cells30 HSQ.out HE.out HX5.out) (fun hH1 => ?_)
              clear hK hH0
              try simp only [Act.put, List.setIfInBounds_toArray, List.set_cons_zero, List.set_cons_succ]
              refine wpAnyH_ready (rs := [5, 9]) (by as_aux_lemma => kernel_rfl) (by simp) (AllReadyH.cons rfl (fun K hK => ?c5x1) (AllReadyH.cons rfl (fun K hK => ?c9x1) AllReadyH.nil))
              case c5x1 =>
                go_simp
                refine (HCALL.out gw cx gb d0 d1 d2 d3 d4 d5 _ (HSQ.out.ref.at HSQ.out.hp)).mono ?_; rintro e wc hto
                obtain ⟨gg, cg, e0, e1, e2, e3, e4, e5, he, hr1, hg1, hb1⟩ := hto
                obtain rfl : e = .returned (.tuple #[.agg #[.int .i64 r2.kind, .int .i64 1, .int .i64 0, .int .i64 r2.k, .int .i64 r2.pc, .int .u64 r2.w, .int .u64 r2.v, .int .i64 r2.code], .agg #[.slice (some ⟨gg, 0, none⟩) ws2.length cg, .slice (some ⟨gb, 0, none⟩) ws2.length ws2.length, .int .i64 e0, .int .i64 e1, .int .i64 e2, .int .i64 e3, .int .i64 e4, .int .i64 e5, .int .i64 (-1), .bool false]]) := he
                have HRR := Lib.hid (And.intro hr1 (show gg = gw ∨ (χ gg = 0 ∧ W.heap.size ≤ gg) from hg1.imp id (fun h => ⟨HSQ.out.hp.fresh h, by have := HSQ.out.hp.below.size; omega⟩)))
                have HSQ := Lib.hid (HSQ.out.keep hb1)
                have HBQ := Lib.hid (And.intro (HBQ.out.1.chg (chg_of_below (fun _ => False) hb1) (fun h => h)) HBQ.out.2)
                clear hr1 hg1 hb1
                refine hK.out _ _ (cells30 HSQ.out HE.out HX5.out) (fun hH2 => ?_)
                clear hK hH1
                try simp only [Act.put, List.setIfInBounds_toArray, List.set_cons_zero, List.set_cons_succ]
                refine take_first 6 (some 168) ?_ rfl rfl (by as_aux_lemma => kernel_rfl) (by as_aux_lemma => kernel_rfl) (by as_aux_lemma => kernel_rfl) (fun _ _ _ h => h) rfl ?hy hH2 ?_
                case hy => (intro w0 hS0; (try dsimp only at hS0); (try go_simp); try with_reducible rfl)
                try simp only [Act.put, List.setIfInBounds_toArray, List.set_cons_zero, List.set_cons_succ]
                refine take_first 7 (some 175) ?_ rfl rfl (by as_aux_lemma => kernel_rfl) (by as_aux_lemma => kernel_rfl) (by as_aux_lemma => kernel_rfl) (fun _ _ _ h => h) rfl ?hy hH2 ?_
                case hy => (intro w0 hS0; (try dsimp only at hS0); (try go_simp); try with_reducible rfl)
                try simp only [Act.put, List.setIfInBounds_toArray, List.set_cons_zero, List.set_cons_succ]
                refine take_first 8 (some 176) ?_ rfl rfl (by as_aux_lemma => kernel_rfl) (by as_aux_lemma => kernel_rfl) (by as_aux_lemma => kernel_rfl) (fun _ _ _ h => h) rfl ?hy hH2 ?_
                case hy => (intro w0 hS0; (try dsimp only at hS0); (try go_simp); try with_reducible rfl)
                try simp only [Act.put, List.setIfInBounds_toArray, List.set_cons_zero, List.set_cons_succ]
                refine wpAnyH_ready (rs := [9]) (by as_aux_lemma => kernel_rfl) (by simp) (AllReadyH.cons rfl (fun K hK => ?_) AllReadyH.nil)
                go_simp
                have bn := blk_new wc 44 #[.int .i64 0, .int .i64 0, .int .i64 0, .int .i64 0, .int .i64 0, .int .u64 0, .int .u64 0, .int .i64 0] _ rfl
                have hs := HSQ.out.alloc (Obj.cells #[.int .i64 0, .int .i64 0, .int .i64 0, .int .i64 0, .int .i64 0, .int .u64 0, .int .u64 0, .int .i64 0] 44)
                have hf := HSQ.out.hp.fresh (Nat.le_refl _)
                have hge : W.heap.size ≤ wc.heap.size := HSQ.out.hp.below.size
                have hr := HRR.out.1.below (bnew (Below.refl _ _) (Obj.cells #[.int .i64 0, .int .i64 0, .int .i64 0, .int .i64 0, .int .i64 0, .int .u64 0, .int .u64 0, .int .i64 0] 44))
                have bo' := HBQ.out.1.alloc (Obj.cells #[.int .i64 0, .int .i64 0, .int .i64 0, .int .i64 0, .int .i64 0, .int .u64 0, .int .u64 0, .int .i64 0] 44)
                have hpq : wc.heap.size ≠ q := by have := HBQ.out.1.lt; omega
                generalize wc.alloc (Obj.cells #[.int .i64 0, .int .i64 0, .int .i64 0, .int .i64 0, .int .i64 0, .int .u64 0, .int .u64 0, .int .i64 0] 44) = wa at bn hs hr bo' hK ⊢
                generalize wc.heap.size = p at bn hf hge hpq hK ⊢
                have HSQ := Lib.hid hs
                have HBP := Lib.hid (And.intro bn (And.intro hf hge))
                have HRR := Lib.hid (And.intro hr HRR.out.2)
                clear hr
                have HBQ := Lib.hid (And.intro bo' HBQ.out.2)
                have HPQ : Hid (p ≠ q) := Lib.hid hpq
                clear bo' hpq
                clear bn hs hf hge
                refine hK.out _ _ (cells30 HSQ.out HE.out HX5.out) (fun hH3 => ?_)
                clear hK hH2
                try simp only [Act.put, List.setIfInBounds_toArray, List.set_cons_zero, List.set_cons_succ]
                refine wpAnyH_ready (rs := [11]) (by as_aux_lemma => kernel_rfl) (by simp) (AllReadyH.cons rfl (fun K hK => ?_) AllReadyH.nil)
                obtain ⟨y0, y1, y2, y3, y4, y5, y6, y7, z0, z1, z2, z3, z4, z5, z6, z7⟩ := cf8 HBP.out.1
                go_simp
                clear y0 z0 y1 z1 y2 z2 y3 z3 y4 z4 y5 z5 y6 z6 y7 z7
                obtain ⟨bp, hc⟩ := set8 HBP.out.1 (.int .i64 r2.kind) (.int .i64 1) (.int .i64 0) (.int .i64 r2.k) (.int .i64 r2.pc) (.int .u64 r2.w) (.int .u64 r2.v) (.int .i64 r2.code)
                have hgp := gg_ne HRR.out.1 HBP.out.1 (by decide)
                have hgq := gg_ne HRR.out.1 HBQ.out.1 (by decide)
                have bqq := HBQ.out.1.chg hc (fun e => HPQ.out e.symm)
                have hr := HRR.out.1.chg hc hgp (fun e => GBN.out (by rw [e]; exact HBP.out.2.1))
                have hs := HSQ.out.free HBP.out.2.1 HBP.out.2.2 hc
                generalize ((((((((wa.setCell ⟨p, 0, none⟩ (.int .i64 r2.kind)).setCell ⟨p, 1, none⟩ (.int .i64 1)).setCell ⟨p, 2, none⟩ (.int .i64 0)).setCell ⟨p, 3, none⟩ (.int .i64 r2.k)).setCell ⟨p, 4, none⟩ (.int .i64 r2.pc)).setCell ⟨p, 5, none⟩ (.int .u64 r2.w)).setCell ⟨p, 6, none⟩ (.int .u64 r2.v)).setCell ⟨p, 7, none⟩ (.int .i64 r2.code)) = wm at bp bqq hr hs hK ⊢
                have HSQ := Lib.hid hs
                have HBP := Lib.hid (And.intro bp HBP.out.2)
                have HBQ := Lib.hid (And.intro bqq HBQ.out.2)
                have HRR := Lib.hid (And.intro hr HRR.out.2)
                have HGN := Lib.hid (And.intro hgp hgq)
                clear bp hc bqq hr hs hgp hgq
                refine hK.out _ _ (cells30 HSQ.out HE.out HX5.out) (fun hH4 => ?_)
                clear hK hH3
                try simp only [Act.put, List.setIfInBounds_toArray, List.set_cons_zero, List.set_cons_succ]
                refine wpAnyH_ready (rs := [12]) (by as_aux_lemma => kernel_rfl) (by simp) (AllReadyH.cons rfl (fun K hK => ?_) AllReadyH.nil)
                obtain ⟨y0, y1, y2, y3, y4, y5, y6, y7, y8, y9, z0, z1, z2, z3, z4, z5, z6, z7, z8, z9⟩ := cf10 HBQ.out.1
                go_simp
                clear y0 z0 y1 z1 y2 z2 y3 z3 y4 z4 y5 z5 y6 z6 y7 z7 y8 z8 y9 z9
                obtain ⟨bqq, hc⟩ := set10 HBQ.out.1 (.slice (some ⟨gg, 0, none⟩) ws2.length cg) (.slice (some ⟨gb, 0, none⟩) ws2.length ws2.length) (.int .i64 e0) (.int .i64 e1) (.int .i64 e2) (.int .i64 e3) (.int .i64 e4) (.int .i64 e5) (.int .i64 (-1)) (.bool false)
                have bp := HBP.out.1.chg hc (fun e => HPQ.out e)
                have hr := HRR.out.1.chg hc HGN.out.2 (fun e => GBN.out (by rw [e]; exact HBQ.out.2.1))
                have hs := HSQ.out.free HBQ.out.2.1 HBQ.out.2.2 hc
                generalize ((((((((((wm.setCell ⟨q, 0, none⟩ (.slice (some ⟨gg, 0, none⟩) ws2.length cg)).setCell ⟨q, 1, none⟩ (.slice (some ⟨gb, 0, none⟩) ws2.length ws2.length)).setCell ⟨q, 2, none⟩ (.int .i64 e0)).setCell ⟨q, 3, none⟩ (.int .i64 e1)).setCell ⟨q, 4, none⟩ (.int .i64 e2)).setCell ⟨q, 5, none⟩ (.int .i64 e3)).setCell ⟨q, 6, none⟩ (.int .i64 e4)).setCell ⟨q, 7, none⟩ (.int .i64 e5)).setCell ⟨q, 8, none⟩ (.int .i64 (-1))).setCell ⟨q, 9, none⟩ (.bool false)) = wn at bp bqq hr hs hK ⊢
                have HFR := Lib.hid (And.intro bp (And.intro bqq (And.intro hr (And.intro HRR.out.2 (And.intro HBP.out.2.1 (And.intro HBQ.out.2.1 (And.intro HBP.out.2.2 (And.intro HBQ.out.2.2 (And.intro HPQ.out (And.intro HGN.out.1 (And.intro HGN.out.2 hs)))))))))))
                have HSQ := Lib.hid hs
                clear bp hc bqq hr hs
                refine hK.out _ _ (cells30 HSQ.out HE.out HX5.out) (fun hH5 => ?_)
                clear hK hH4
                try simp only [Act.put, List.setIfInBounds_toArray, List.set_cons_zero, List.set_cons_succ]
                refine wpAnyH_done (by as_aux_lemma => kernel_rfl) ?_ _
                clear hH5 HSQ HBP HBQ HRR HPQ HGN
                go_wp2
                go_meet
                case rel => exact ⟨p, q, gg, cg, e0, e1, e2, e3, e4, e5, rfl, rfl, HFR⟩
              case c9x1 =>
                go_simp
                have bn := blk_new wz 44 #[.int .i64 0, .int .i64 0, .int .i64 0, .int .i64 0, .int .i64 0, .int .u64 0, .int .u64 0, .int .i64 0] _ rfl
                have hs := HSQ.out.alloc (Obj.cells #[.int .i64 0, .int .i64 0, .int .i64 0, .int .i64 0, .int .i64 0, .int .u64 0, .int .u64 0, .int .i64 0] 44)
                have hf := HSQ.out.hp.fresh (Nat.le_refl _)
                have hge : W.heap.size ≤ wz.heap.size := HSQ.out.hp.below.size
                have bo' := HBQ.out.1.alloc (Obj.cells #[.int .i64 0, .int .i64 0, .int .i64 0, .int .i64 0, .int .i64 0, .int .u64 0, .int .u64 0, .int .i64 0] 44)
                have hpq : wz.heap.size ≠ q := by have := HBQ.out.1.lt; omega
                generalize wz.alloc (Obj.cells #[.int .i64 0, .int .i64 0, .int .i64 0, .int .i64 0, .int .i64 0, .int .u64 0, .int .u64 0, .int .i64 0] 44) = wa at bn hs bo' hK ⊢
                generalize wz.heap.size = p at bn hf hge hpq hK ⊢
                have HSQ := Lib.hid hs
                have HBP := Lib.hid (And.intro bn (And.intro hf hge))
                have HBQ := Lib.hid (And.intro bo' HBQ.out.2)
                have HPQ : Hid (p ≠ q) := Lib.hid hpq
                clear bo' hpq
                clear bn hs hf hge
                refine hK.out _ _ (cells30 HSQ.out HE.out HX5.out) (fun hH2 => ?_)
                clear hK hH1
                try simp only [Act.put, List.setIfInBounds_toArray, List.set_cons_zero, List.set_cons_succ]
                refine wpAnyH_ready (rs := [5]) (by as_aux_lemma => kernel_rfl) (by simp) (AllReadyH.cons rfl (fun K hK => ?_) AllReadyH.nil)
                go_simp
                refine (HCALL.out gw cx gb d0 d1 d2 d3 d4 d5 _ (HSQ.out.ref.at HSQ.out.hp)).mono ?_; rintro e wc hto
                obtain ⟨gg, cg, e0, e1, e2, e3, e4, e5, he, hr1, hg1, hb1⟩ := hto
                obtain rfl : e = .returned (.tuple #[.agg #[.int .i64 r2.kind, .int .i64 1, .int .i64 0, .int .i64 r2.k, .int .i64 r2.pc, .int .u64 r2.w, .int .u64 r2.v, .int .i64 r2.code], .agg #[.slice (some ⟨gg, 0, none⟩) ws2.length cg, .slice (some ⟨gb, 0, none⟩) ws2.length ws2.length, .int .i64 e0, .int .i64 e1, .int .i64 e2, .int .i64 e3, .int .i64 e4, .int .i64 e5, .int .i64 (-1), .bool false]]) := he
                have HRR := Lib.hid (And.intro hr1 (show gg = gw ∨ (χ gg = 0 ∧ W.heap.size ≤ gg) from hg1.imp id (fun h => ⟨HSQ.out.hp.fresh h, by have := HSQ.out.hp.below.size; omega⟩)))
                have HSQ := Lib.hid (HSQ.out.keep hb1)
                have HBP := Lib.hid (And.intro (HBP.out.1.chg (chg_of_below (fun _ => False) hb1) (fun h => h)) HBP.out.2)
                have HBQ := Lib.hid (And.intro (HBQ.out.1.chg (chg_of_below (fun _ => False) hb1) (fun h => h)) HBQ.out.2)
                clear hr1 hg1 hb1
                refine hK.out _ _ (cells30 HSQ.out HE.out HX5.out) (fun hH3 => ?_)
                clear hK hH2
                try simp only [Act.put, List.setIfInBounds_toArray, List.set_cons_zero, List.set_cons_succ]
                refine take_first 6 (some 168) ?_ rfl rfl (by as_aux_lemma => kernel_rfl) (by as_aux_lemma => kernel_rfl) (by as_aux_lemma => kernel_rfl) (fun _ _ _ h => h) rfl ?hy hH3 ?_
                case hy => (intro w0 hS0; (try dsimp only at hS0); (try go_simp); try with_reducible rfl)
                try simp only [Act.put, List.setIfInBounds_toArray, List.set_cons_zero, List.set_cons_succ]
                refine take_first 7 (some 175) ?_ rfl rfl (by as_aux_lemma => kernel_rfl) (by as_aux_lemma => kernel_rfl) (by as_aux_lemma => kernel_rfl) (fun _ _ _ h => h) rfl ?hy hH3 ?_
                case hy => (intro w0 hS0; (try dsimp only at hS0); (try go_simp); try with_reducible rfl)
                try simp only [Act.put, List.setIfInBounds_toArray, List.set_cons_zero, List.set_cons_succ]
                refine take_first 8 (some 176) ?_ rfl rfl (by as_aux_lemma => kernel_rfl) (by as_aux_lemma => kernel_rfl) (by as_aux_lemma => kernel_rfl) (fun _ _ _ h => h) rfl ?hy hH3 ?_
                case hy => (intro w0 hS0; (try dsimp only at hS0); (try go_simp); try with_reducible rfl)
                try simp only [Act.put, List.setIfInBounds_toArray, List.set_cons_zero, List.set_cons_succ]
                refine wpAnyH_ready (rs := [11]) (by as_aux_lemma => kernel_rfl) (by simp) (AllReadyH.cons rfl (fun K hK => ?_) AllReadyH.nil)
                obtain ⟨y0, y1, y2, y3, y4, y5, y6, y7, z0, z1, z2, z3, z4, z5, z6, z7⟩ := cf8 HBP.out.1
                go_simp
                clear y0 z0 y1 z1 y2 z2 y3 z3 y4 z4 y5 z5 y6 z6 y7 z7
                obtain ⟨bp, hc⟩ := set8 HBP.out.1 (.int .i64 r2.kind) (.int .i64 1) (.int .i64 0) (.int .i64 r2.k) (.int .i64 r2.pc) (.int .u64 r2.w) (.int .u64 r2.v) (.int .i64 r2.code)
                have hgp := gg_ne HRR.out.1 HBP.out.1 (by decide)
                have hgq := gg_ne HRR.out.1 HBQ.out.1 (by decide)
                have bqq := HBQ.out.1.chg hc (fun e => HPQ.out e.symm)
                have hr := HRR.out.1.chg hc hgp (fun e => GBN.out (by rw [e]; exact HBP.out.2.1))
                have hs := HSQ.out.free HBP.out.2.1 HBP.out.2.2 hc
                generalize ((((((((wc.setCell ⟨p, 0, none⟩ (.int .i64 r2.kind)).setCell ⟨p, 1, none⟩ (.int .i64 1)).setCell ⟨p, 2, none⟩ (.int .i64 0)).setCell ⟨p, 3, none⟩ (.int .i64 r2.k)).setCell ⟨p, 4, none⟩ (.int .i64 r2.pc)).setCell ⟨p, 5, none⟩ (.int .u64 r2.w)).setCell ⟨p, 6, none⟩ (.int .u64 r2.v)).setCell ⟨p, 7, none⟩ (.int .i64 r2.code)) = wm at bp bqq hr hs hK ⊢
                have HSQ := Lib.hid hs
                have HBP := Lib.hid (And.intro bp HBP.out.2)
                have HBQ := Lib.hid (And.intro bqq HBQ.out.2)
                have HRR := Lib.hid (And.intro hr HRR.out.2)
                have HGN := Lib.hid (And.intro hgp hgq)
                clear bp hc bqq hr hs hgp hgq
                refine hK.out _ _ (cells30 HSQ.out HE.out HX5.out) (fun hH4 => ?_)
                clear hK hH3
                try simp only [Act.put, List.setIfInBounds_toArray, List.set_cons_zero, List.set_cons_succ]
                refine wpAnyH_ready (rs := [12]) (by as_aux_lemma => kernel_rfl) (by simp) (AllReadyH.cons rfl (fun K hK => ?_) AllReadyH.nil)
                obtain ⟨y0, y1, y2, y3, y4, y5, y6, y7, y8, y9, z0, z1, z2, z3, z4, z5, z6, z7, z8, z9⟩ := cf10 HBQ.out.1
                go_simp
                clear y0 z0 y1 z1 y2 z2 y3 z3 y4 z4 y5 z5 y6 z6 y7 z7 y8 z8 y9 z9
                obtain ⟨bqq, hc⟩ := set10 HBQ.out.1 (.slice (some ⟨gg, 0, none⟩) ws2.length cg) (.slice (some ⟨gb, 0, none⟩) ws2.length ws2.length) (.int .i64 e0) (.int .i64 e1) (.int .i64 e2) (.int .i64 e3) (.int .i64 e4) (.int .i64 e5) (.int .i64 (-1)) (.bool false)
                have bp := HBP.out.1.chg hc (fun e => HPQ.out e)
                have hr := HRR.out.1.chg hc HGN.out.2 (fun e => GBN.out (by rw [e]; exact HBQ.out.2.1))
                have hs := HSQ.out.free HBQ.out.2.1 HBQ.out.2.2 hc
                generalize ((((((((((wm.setCell ⟨q, 0, none⟩ (.slice (some ⟨gg, 0, none⟩) ws2.length cg)).setCell ⟨q, 1, none⟩ (.slice (some ⟨gb, 0, none⟩) ws2.length ws2.length)).setCell ⟨q, 2, none⟩ (.int .i64 e0)).setCell ⟨q, 3, none⟩ (.int .i64 e1)).setCell ⟨q, 4, none⟩ (.int .i64 e2)).setCell ⟨q, 5, none⟩ (.int .i64 e3)).setCell ⟨q, 6, none⟩ (.int .i64 e4)).setCell ⟨q, 7, none⟩ (.int .i64 e5)).setCell ⟨q, 8, none⟩ (.int .i64 (-1))).setCell ⟨q, 9, none⟩ (.bool false)) = wn at bp bqq hr hs hK ⊢
                have HFR := Lib.hid (And.intro bp (And.intro bqq (And.intro hr (And.intro HRR.out.2 (And.intro HBP.out.2.1 (And.intro HBQ.out.2.1 (And.intro HBP.out.2.2 (And.intro HBQ.out.2.2 (And.intro HPQ.out (And.intro HGN.out.1 (And.intro HGN.out.2 hs)))))))))))
                have HSQ := Lib.hid hs
                clear bp hc bqq hr hs
                refine hK.out _ _ (cells30 HSQ.out HE.out HX5.out) (fun hH5 => ?_)
                clear hK hH4
                try simp only [Act.put, List.setIfInBounds_toArray, List.set_cons_zero, List.set_cons_succ]
                refine wpAnyH_done (by as_aux_lemma => kernel_rfl) ?_ _
                clear hH5 HSQ HBP HBQ HRR HPQ HGN
                go_wp2
                go_meet
                case rel => exact ⟨p, q, gg, cg, e0, e1, e2, e3, e4, e5, rfl, rfl, HFR⟩
          case rest =>
            obtain ⟨p, q, gg, cg, e0, e1, e2, e3, e4, e5, rfl, rfl, HR⟩ := hcut
            have hps : (es.map Ent.bo)[t]? = some bo := by rw [List.getElem?_map, HE.out]; rfl
            have HPS := Lib.hid hps
            clear hps
            have hp6 : o2.pc ≤ 6 := HOK2.out.1.pc.1
            obtain ⟨B, hB⟩ : ∃ B, decide (o2.pc = 6) = B := ⟨_, rfl⟩
            have t3 : decide ((6 : Int) ≤ (o2.pc : Int)) = B := by rw [← hB, Bool.eq_iff_iff]; simp; omega
            have HB := Lib.hid hB
            clear hB hp6
            go_upto_region 31 with fail
            refine wp_region_held_drew (S := (fun w' => w'.cell? ⟨g7, t, none⟩ = some (.pointer (some ⟨bo, 0, none⟩)) ∧ w'.cell? ⟨p, 4, none⟩ = some (.int .i64 (o2.pc : Nat)))) (by as_aux_lemma => kernel_rfl) ((by have h := cells31 HR.out.2.2.2.2.2.2.2.2.2.2.2.drew HPS.out HR.out.1.drew; rw [HRP.out] at h; exact h)) (fun hH0 => ?_)
            refine take_first 0 (some 177) ?_ rfl rfl (by as_aux_lemma => kernel_rfl) (by as_aux_lemma => kernel_rfl) (by as_aux_lemma => kernel_rfl) (fun _ _ _ h => h) rfl ?hy hH0 ?_
            case hy => (intro w0 hS0; (try dsimp only at hS0); (try go_simp); try with_reducible rfl)
            try simp only [Act.put, List.setIfInBounds_toArray, List.set_cons_zero, List.set_cons_succ]
            refine take_first 1 (some 178) ?_ rfl rfl (by as_aux_lemma => kernel_rfl) (by as_aux_lemma => kernel_rfl) (by as_aux_lemma => kernel_rfl) (fun _ _ _ h => h) rfl ?hy hH0 ?_
            case hy => (intro w0 hS0; (try dsimp only at hS0); (try go_simp); try with_reducible rfl)
            try simp only [Act.put, List.setIfInBounds_toArray, List.set_cons_zero, List.set_cons_succ]
            refine take_first 2 (some 179) ?_ rfl rfl (by as_aux_lemma => kernel_rfl) (by as_aux_lemma => kernel_rfl) (by as_aux_lemma => kernel_rfl) (fun _ _ _ h => h) rfl ?hy hH0 ?_
            case hy => (intro w0 hS0; (try dsimp only at hS0); (try go_simp); try with_reducible rfl)
            try simp only [Act.put, List.setIfInBounds_toArray, List.set_cons_zero, List.set_cons_succ]
            refine take_first 3 (some 180) ?_ rfl rfl (by as_aux_lemma => kernel_rfl) (by as_aux_lemma => kernel_rfl) (by as_aux_lemma => kernel_rfl) (fun _ _ _ h => h) rfl ?hy hH0 ?_
            case hy => (intro w0 hS0; (try dsimp only at hS0); (try go_simp); try with_reducible rfl)
            try simp only [Act.put, List.setIfInBounds_toArray, List.set_cons_zero, List.set_cons_succ]
            refine take_first 4 (some 181) ?_ rfl rfl (by as_aux_lemma => kernel_rfl) (by as_aux_lemma => kernel_rfl) (by as_aux_lemma => kernel_rfl) (fun _ _ _ h => h) rfl ?hy hH0 ?_
            case hy => (intro w0 hS0; (try dsimp only at hS0); (try go_simp); try with_reducible rfl)
            try simp only [Act.put, List.setIfInBounds_toArray, List.set_cons_zero, List.set_cons_succ]
            refine take_first 6 (some 183) ?_ rfl rfl (by as_aux_lemma => kernel_rfl) (by as_aux_lemma => kernel_rfl) (by as_aux_lemma => kernel_rfl) (fun _ _ _ h => h) rfl ?hy hH0 ?_
            case hy => (intro w0 hS0; (try dsimp only at hS0); (try go_simp); try with_reducible rfl)
            try simp only [Act.put, List.setIfInBounds_toArray, List.set_cons_zero, List.set_cons_succ]
            refine take_first 7 (some 184) ?_ rfl rfl (by as_aux_lemma => kernel_rfl) (by as_aux_lemma => kernel_rfl) (by as_aux_lemma => kernel_rfl) (fun _ _ _ h => h) rfl ?hy hH0 ?_
            case hy => (intro w0 hS0; (try dsimp only at hS0); (try go_simp); try with_reducible rfl)
            try simp only [Act.put, List.setIfInBounds_toArray, List.set_cons_zero, List.set_cons_succ]
            refine take_first 8 (some 185) ?_ rfl rfl (by as_aux_lemma => kernel_rfl) (by as_aux_lemma => kernel_rfl) (by as_aux_lemma => kernel_rfl) (fun _ _ _ h => h) rfl ?hy hH0 ?_
            case hy => (intro w0 hS0; (try dsimp only at hS0); (try go_simp); try with_reducible rfl)
            try simp only [Act.put, List.setIfInBounds_toArray, List.set_cons_zero, List.set_cons_succ]
            refine wpAnyH_ready (rs := [5]) (by as_aux_lemma => kernel_rfl) (by simp) (AllReadyH.cons rfl (fun K hK => ?_) AllReadyH.nil)
            go_simp
            have hat := HR.out.2.2.2.2.2.2.2.2.2.2.2.drew.at HE.out
            refine (g_step HR.out.2.2.2.2.2.2.2.2.2.2.2.drew.sys hat.1 hat.2 HG.out HEN.out.1 (by have h := HR.out.2.2.2.2.2.2.2.2.2.2.2.lw; have := HM4.out; omega)).mono ?_; rintro e w3 ⟨he, ho3, hs3, hc3⟩
            rw [HO2.out.1] at he ho3
            rw [HO2.out.2] at hs3
            rw [HB.out] at he
            subst he
            obtain ⟨m3, hst3⟩ := HR.out.2.2.2.2.2.2.2.2.2.2.2.drew.step HE.out hc3 ho3 hs3.mem HOK2.out.2.2.1 HOK2.out.1 HOK2.out.2.1
            have hmk := HR.out.2.2.2.2.2.2.2.2.2.2.2.marks
            have hme := HR.out.2.2.2.2.2.2.2.2.2.2.2.markE HE.out
            have hfree : ∀ x, χ x = 0 → ¬ (x = b ∨ x = bw ∨ x = bo) := fun x hx h => by rcases h with rfl | rfl | rfl; (have := hmk.1; omega); (have := hmk.2.1; omega); (have hme' : χ x = _ := hme; omega)
            have hgg : ¬ (gg = b ∨ gg = bw ∨ gg = bo) := by rcases HR.out.2.2.2.1 with e | ⟨h, _⟩; (subst e; intro h; rcases h with h | h | h; (have := hmk.1; rw [← h] at this; omega); (have := hmk.2.1; rw [← h] at this; omega); (have hme' : χ bo = _ := hme; rw [← h] at hme'; omega)); exact hfree gg h
            have hgb : ¬ (gb = b ∨ gb = bw ∨ gb = bo) := by intro h; rcases h with h | h | h; (have := hmk.1; rw [← h] at this; omega); (have := hmk.2.1; rw [← h] at this; omega); (have hme' : χ bo = _ := hme; rw [← h] at hme'; omega)
            have hp3 := HR.out.1.drew.chg hc3 (hfree p HR.out.2.2.2.2.1)
            have hq3 := HR.out.2.1.drew.chg hc3 (hfree q HR.out.2.2.2.2.2.1)
            have hr3 := HR.out.2.2.1.drew.chg hc3 hgg hgb
            have hc7 := cells31 hst3 HPS.out hp3
            rw [HRP.out] at hc7
            have H3 := Lib.hid (And.intro hst3 (And.intro hp3 (And.intro hq3 (And.intro hr3 ho3))))
            clear hat ho3 hs3 hc3 hst3 hmk hme hfree hgg hgb hp3 hq3 hr3
            refine hK.out _ _ hc7 (fun hH1 => ?_)
            clear hK
            try simp only [Act.put, List.setIfInBounds_toArray, List.set_cons_zero, List.set_cons_succ]
            refine take_first 9 (some 186) (.bool false) rfl rfl (by as_aux_lemma => kernel_rfl) (by as_aux_lemma => kernel_rfl) (by as_aux_lemma => kernel_rfl) (fun _ _ _ h => h) rfl (by intro w0 hS0; (try dsimp only at hS0); go_simp) hH1 ?_
            try simp only [Act.put, List.setIfInBounds_toArray, List.set_cons_zero, List.set_cons_succ]
            refine take_first 10 (some 187) (.bool false) rfl rfl (by as_aux_lemma => kernel_rfl) (by as_aux_lemma => kernel_rfl) (by as_aux_lemma => kernel_rfl) (fun _ _ _ h => h) rfl (by intro w0 hS0; (try dsimp only at hS0); go_simp) hH1 ?_
            try simp only [Act.put, List.setIfInBounds_toArray, List.set_cons_zero, List.set_cons_succ]
            refine take_first 11 (some 188) ?_ rfl rfl (by as_aux_lemma => kernel_rfl) (by as_aux_lemma => kernel_rfl) (by as_aux_lemma => kernel_rfl) (fun _ _ _ h => h) rfl ?hy hH1 ?_
            case hy => (intro w0 hS0; (try dsimp only at hS0); (try go_simp); try with_reducible rfl)
            try simp only [Act.put, List.setIfInBounds_toArray, List.set_cons_zero, List.set_cons_succ]
            refine take_first 12 (some 189) ?_ rfl rfl (by as_aux_lemma => kernel_rfl) (by as_aux_lemma => kernel_rfl) (by as_aux_lemma => kernel_rfl) (fun _ _ _ h => h) rfl ?hy hH1 ?_
            case hy => (intro w0 hS0; (try dsimp only at hS0); (try go_simp); try with_reducible rfl)
            try simp only [Act.put, List.setIfInBounds_toArray, List.set_cons_zero, List.set_cons_succ]
            refine take_first 13 (some 190) ?_ rfl rfl (by as_aux_lemma => kernel_rfl) (by as_aux_lemma => kernel_rfl) (by as_aux_lemma => kernel_rfl) (fun _ _ _ h => h) rfl ?hy hH1 ?_
            case hy => (intro w0 hS0; (try dsimp only at hS0); (try go_simp); try with_reducible rfl)
            try simp only [Act.put, List.setIfInBounds_toArray, List.set_cons_zero, List.set_cons_succ]
            refine take_first 14 (some 191) ?_ rfl rfl (by as_aux_lemma => kernel_rfl) (by as_aux_lemma => kernel_rfl) (by as_aux_lemma => kernel_rfl) (fun _ _ _ h => h) rfl ?hy hH1 ?_
            case hy => (intro w0 hS0; (try dsimp only at hS0); (try go_simp); try with_reducible rfl)
            try simp only [Act.put, List.setIfInBounds_toArray, List.set_cons_zero, List.set_cons_succ]
            refine take_first 16 (some 193) ?_ rfl rfl (by as_aux_lemma => kernel_rfl) (by as_aux_lemma => kernel_rfl) (by as_aux_lemma => kernel_rfl) (fun _ _ _ h => h) rfl ?hy hH1 ?_
            case hy => (intro w0 hS0; (try dsimp only at hS0); (try go_simp); try with_reducible rfl)
            try simp only [Act.put, List.setIfInBounds_toArray, List.set_cons_zero, List.set_cons_succ]
            refine take_first 17 (some 194) ?_ rfl rfl (by as_aux_lemma => kernel_rfl) (by as_aux_lemma => kernel_rfl) (by as_aux_lemma => kernel_rfl) (fun _ _ _ h => h) rfl ?hy hH1 ?_
            case hy => (intro w0 hS0; (try dsimp only at hS0); (try go_simp); try with_reducible rfl)
            try simp only [Act.put, List.setIfInBounds_toArray, List.set_cons_zero, List.set_cons_succ]
            refine wpAnyH_ready (rs := [15]) (by as_aux_lemma => kernel_rfl) (by simp) (AllReadyH.cons rfl (fun K hK => ?_) AllReadyH.nil)
            go_simp
            refine (gat_calls bo 1 M 0 _ _ _ _ _ _ _ H3.out.2.2.2.2).mono ?_; rintro e w' ⟨rfl, rfl⟩
            refine hK.out _ _ hc7 (fun hH2 => ?_)
            clear hK
            clear hH1
            try simp only [Act.put, List.setIfInBounds_toArray, List.set_cons_zero, List.set_cons_succ]
            refine take_first 18 (some 195) (.bool false) rfl rfl (by as_aux_lemma => kernel_rfl) (by as_aux_lemma => kernel_rfl) (by as_aux_lemma => kernel_rfl) (fun _ _ _ h => h) rfl (by intro w0 hS0; (try dsimp only at hS0); go_simp) hH2 ?_
            try simp only [Act.put, List.setIfInBounds_toArray, List.set_cons_zero, List.set_cons_succ]
            refine take_first 19 (some 196) (.bool false) rfl rfl (by as_aux_lemma => kernel_rfl) (by as_aux_lemma => kernel_rfl) (by as_aux_lemma => kernel_rfl) (fun _ _ _ h => h) rfl (by intro w0 hS0; (try dsimp only at hS0); go_simp) hH2 ?_
            try simp only [Act.put, List.setIfInBounds_toArray, List.set_cons_zero, List.set_cons_succ]
            refine wpAnyH_done (by as_aux_lemma => kernel_rfl) ?_ _
            clear hc7 hH0 hH2
            go_upto_region 33 with fail
            have he3 : (es.set t (Ent.mk bo o2 r))[t]? = some (Ent.mk bo o2 r) := List.getElem?_set_self (List.getElem?_eq_some_iff.1 HE.out).1
            obtain ⟨gx, capx, cur, hv, hm8, l1, l2, l3, hcur⟩ := H3.out.1.pos8 (by rw [List.length_set, HEL.out]; omega)
            have hgx := (slice_inj hv).1
            subst hgx
            obtain ⟨⟨cy, f0, f1, f2, f3, f4, f5, hx3⟩, _⟩ := H3.out.1.ref
            have c8 := cell8 H3.out.1.hp hm8 hcur he3
            have y0 : w3.cell? ⟨g8, t * 8, none⟩ = some (.int .i64 r.kind) := c8 0 (by decide)
            have z0 : w3.frozen? ⟨g8, t * 8, none⟩ = false := (H3.out.1.hp.blk hm8).free _
            have p0 : w3.cell? ⟨p, 0, none⟩ = some (.int .i64 r2.kind) := H3.out.2.1.cell 0
            have y1 : w3.cell? ⟨g8, t * 8 + 1, none⟩ = some (.int .i64 1) := c8 1 (by decide)
            have z1 : w3.frozen? ⟨g8, t * 8 + 1, none⟩ = false := (H3.out.1.hp.blk hm8).free _
            have p1 : w3.cell? ⟨p, 1, none⟩ = some (.int .i64 1) := H3.out.2.1.cell 1
            have y2 : w3.cell? ⟨g8, t * 8 + 2, none⟩ = some (.int .i64 0) := c8 2 (by decide)
            have z2 : w3.frozen? ⟨g8, t * 8 + 2, none⟩ = false := (H3.out.1.hp.blk hm8).free _
            have p2 : w3.cell? ⟨p, 2, none⟩ = some (.int .i64 0) := H3.out.2.1.cell 2
            have y3 : w3.cell? ⟨g8, t * 8 + 3, none⟩ = some (.int .i64 r.k) := c8 3 (by decide)
            have z3 : w3.frozen? ⟨g8, t * 8 + 3, none⟩ = false := (H3.out.1.hp.blk hm8).free _
            have p3 : w3.cell? ⟨p, 3, none⟩ = some (.int .i64 r2.k) := H3.out.2.1.cell 3
            have y4 : w3.cell? ⟨g8, t * 8 + 4, none⟩ = some (.int .i64 r.pc) := c8 4 (by decide)
            have z4 : w3.frozen? ⟨g8, t * 8 + 4, none⟩ = false := (H3.out.1.hp.blk hm8).free _
            have p4 : w3.cell? ⟨p, 4, none⟩ = some (.int .i64 r2.pc) := H3.out.2.1.cell 4
            have y5 : w3.cell? ⟨g8, t * 8 + 5, none⟩ = some (.int .u64 r.w) := c8 5 (by decide)
            have z5 : w3.frozen? ⟨g8, t * 8 + 5, none⟩ = false := (H3.out.1.hp.blk hm8).free _
            have p5 : w3.cell? ⟨p, 5, none⟩ = some (.int .u64 r2.w) := H3.out.2.1.cell 5
            have y6 : w3.cell? ⟨g8, t * 8 + 6, none⟩ = some (.int .u64 r.v) := c8 6 (by decide)
            have z6 : w3.frozen? ⟨g8, t * 8 + 6, none⟩ = false := (H3.out.1.hp.blk hm8).free _
            have p6 : w3.cell? ⟨p, 6, none⟩ = some (.int .u64 r2.v) := H3.out.2.1.cell 6
            have y7 : w3.cell? ⟨g8, t * 8 + 7, none⟩ = some (.int .i64 r.code) := c8 7 (by decide)
            have z7 : w3.frozen? ⟨g8, t * 8 + 7, none⟩ = false := (H3.out.1.hp.blk hm8).free _
            have p7 : w3.cell? ⟨p, 7, none⟩ = some (.int .i64 r2.code) := H3.out.2.1.cell 7
            have x0 : w3.cell? ⟨bx, 0, none⟩ = some (.slice (some ⟨gw, 0, none⟩) ws.length cy) := (H3.out.1.hp.blk hx3).cell 0
            have s0 : w3.frozen? ⟨bx, 0, none⟩ = false := (H3.out.1.hp.blk hx3).free _
            have q0 : w3.cell? ⟨q, 0, none⟩ = some (.slice (some ⟨gg, 0, none⟩) ws2.length cg) := H3.out.2.2.1.cell 0
            have x1 : w3.cell? ⟨bx, 1, none⟩ = some (.slice (some ⟨gb, 0, none⟩) ws.length ws.length) := (H3.out.1.hp.blk hx3).cell 1
            have s1 : w3.frozen? ⟨bx, 1, none⟩ = false := (H3.out.1.hp.blk hx3).free _
            have q1 : w3.cell? ⟨q, 1, none⟩ = some (.slice (some ⟨gb, 0, none⟩) ws2.length ws2.length) := H3.out.2.2.1.cell 1
            have x2 : w3.cell? ⟨bx, 2, none⟩ = some (.int .i64 f0) := (H3.out.1.hp.blk hx3).cell 2
            have s2 : w3.frozen? ⟨bx, 2, none⟩ = false := (H3.out.1.hp.blk hx3).free _
            have q2 : w3.cell? ⟨q, 2, none⟩ = some (.int .i64 e0) := H3.out.2.2.1.cell 2
            have x3 : w3.cell? ⟨bx, 3, none⟩ = some (.int .i64 f1) := (H3.out.1.hp.blk hx3).cell 3
            have s3 : w3.frozen? ⟨bx, 3, none⟩ = false := (H3.out.1.hp.blk hx3).free _
            have q3 : w3.cell? ⟨q, 3, none⟩ = some (.int .i64 e1) := H3.out.2.2.1.cell 3
            have x4 : w3.cell? ⟨bx, 4, none⟩ = some (.int .i64 f2) := (H3.out.1.hp.blk hx3).cell 4
            have s4 : w3.frozen? ⟨bx, 4, none⟩ = false := (H3.out.1.hp.blk hx3).free _
            have q4 : w3.cell? ⟨q, 4, none⟩ = some (.int .i64 e2) := H3.out.2.2.1.cell 4
            have x5 : w3.cell? ⟨bx, 5, none⟩ = some (.int .i64 f3) := (H3.out.1.hp.blk hx3).cell 5
            have s5 : w3.frozen? ⟨bx, 5, none⟩ = false := (H3.out.1.hp.blk hx3).free _
            have q5 : w3.cell? ⟨q, 5, none⟩ = some (.int .i64 e3) := H3.out.2.2.1.cell 5
            have x6 : w3.cell? ⟨bx, 6, none⟩ = some (.int .i64 f4) := (H3.out.1.hp.blk hx3).cell 6
            have s6 : w3.frozen? ⟨bx, 6, none⟩ = false := (H3.out.1.hp.blk hx3).free _
            have q6 : w3.cell? ⟨q, 6, none⟩ = some (.int .i64 e4) := H3.out.2.2.1.cell 6
            have x7 : w3.cell? ⟨bx, 7, none⟩ = some (.int .i64 f5) := (H3.out.1.hp.blk hx3).cell 7
            have s7 : w3.frozen? ⟨bx, 7, none⟩ = false := (H3.out.1.hp.blk hx3).free _
            have q7 : w3.cell? ⟨q, 7, none⟩ = some (.int .i64 e5) := H3.out.2.2.1.cell 7
            have x8 : w3.cell? ⟨bx, 8, none⟩ = some (.int .i64 (-1)) := (H3.out.1.hp.blk hx3).cell 8
            have s8 : w3.frozen? ⟨bx, 8, none⟩ = false := (H3.out.1.hp.blk hx3).free _
            have q8 : w3.cell? ⟨q, 8, none⟩ = some (.int .i64 (-1)) := H3.out.2.2.1.cell 8
            have x9 : w3.cell? ⟨bx, 9, none⟩ = some (.bool false) := (H3.out.1.hp.blk hx3).cell 9
            have s9 : w3.frozen? ⟨bx, 9, none⟩ = false := (H3.out.1.hp.blk hx3).free _
            have q9 : w3.cell? ⟨q, 9, none⟩ = some (.bool false) := H3.out.2.2.1.cell 9
            have hm8' := H3.out.1.mark8 (by rw [List.length_set, HEL.out]; omega)
            have hmk := H3.out.1.marks
            have hp0 := HR.out.2.2.2.2.1
            have hq0 := HR.out.2.2.2.2.2.1
            have n_p_g8 : ¬ p = g8 := fun e => by rw [e] at hp0; omega
            have n_g8_p : ¬ g8 = p := fun e => by rw [← e] at hp0; omega
            have n_q_g8 : ¬ q = g8 := fun e => by rw [e] at hq0; omega
            have n_g8_q : ¬ g8 = q := fun e => by rw [← e] at hq0; omega
            have n_p_bx : ¬ p = bx := fun e => by rw [e] at hp0; omega
            have n_bx_p : ¬ bx = p := fun e => by rw [← e] at hp0; omega
            have n_q_bx : ¬ q = bx := fun e => by rw [e] at hq0; omega
            have n_bx_q : ¬ bx = q := fun e => by rw [← e] at hq0; omega
            have n_bx_g8 : ¬ bx = g8 := fun e => by rw [← e] at hm8'; omega
            have n_g8_bx : ¬ g8 = bx := fun e => by rw [e] at hm8'; omega
            have HM8 := Lib.hid (And.intro hm8 (And.intro l1 (And.intro l2 (And.intro l3 (And.intro hcur (And.intro he3 hx3))))))
            have HG8 := Lib.hid hm8'
            have HMK2 := Lib.hid hmk
            clear c8 hm8 l1 l2 l3 hcur he3 hx3 hm8' hmk hp0 hq0
            have HV := Lib.hid hv
            clear hv
            go_region
            all_goals go_wp2
            clear y0 z0 p0 y1 z1 p1 y2 z2 p2 y3 z3 p3 y4 z4 p4 y5 z5 p5 y6 z6 p6 y7 z7 p7 x0 s0 q0 x1 s1 q1 x2 s2 q2 x3 s3 q3 x4 s4 q4 x5 s5 q5 x6 s6 q6 x7 s7 q7 x8 s8 q8 x9 s9 q9 n_p_g8 n_g8_p n_q_g8 n_g8_q n_p_bx n_bx_p n_q_bx n_bx_q n_bx_g8 n_g8_bx
            obtain ⟨b8, hc8⟩ := set8At (k := t * 8) (H3.out.1.hp.blk HM8.out.1) (.int .i64 r2.kind) (.int .i64 1) (.int .i64 0) (.int .i64 r2.k) (.int .i64 r2.pc) (.int .u64 r2.w) (.int .u64 r2.v) (.int .i64 r2.code)
            obtain ⟨m4, hst4⟩ := H3.out.1.own (e := Ent.mk bo o2 r) HV.out HM8.out.1 HM8.out.2.1 HM8.out.2.2.1 HM8.out.2.2.2.1 HM8.out.2.2.2.2.1 HM8.out.2.2.2.2.2.1 r2 hc8 b8
            have hgg8 : ¬ gg = g8 := fun e => by rcases HR.out.2.2.2.1 with h | ⟨h, _⟩; (rw [e] at h; have h1 := HG8.out; have h2 := HMK2.out.2.2.2.1; rw [← h] at h2; omega); (rw [e] at h; have h1 := HG8.out; omega)
            have hgb8 : ¬ gb = g8 := fun e => by have h1 := HG8.out; have h2 := HMK2.out.2.2.2.2; rw [e] at h2; omega
            have hggx : ¬ gg = bx := fun e => by rcases HR.out.2.2.2.1 with h | ⟨h, _⟩; (rw [e] at h; have h1 := HMK2.out.2.2.1; have h2 := HMK2.out.2.2.2.1; rw [← h] at h2; omega); (rw [e] at h; have h1 := HMK2.out.2.2.1; omega)
            have hgbx : ¬ gb = bx := fun e => by have h1 := HMK2.out.2.2.1; have h2 := HMK2.out.2.2.2.2; rw [e] at h2; omega
            have hr4 := H3.out.2.2.2.1.chg hc8 hgg8 hgb8
            generalize ((((((((w3.setCell ⟨g8, t * 8, none⟩ (.int .i64 r2.kind)).setCell ⟨g8, t * 8 + 1, none⟩ (.int .i64 1)).setCell ⟨g8, t * 8 + 2, none⟩ (.int .i64 0)).setCell ⟨g8, t * 8 + 3, none⟩ (.int .i64 r2.k)).setCell ⟨g8, t * 8 + 4, none⟩ (.int .i64 r2.pc)).setCell ⟨g8, t * 8 + 5, none⟩ (.int .u64 r2.w)).setCell ⟨g8, t * 8 + 6, none⟩ (.int .u64 r2.v)).setCell ⟨g8, t * 8 + 7, none⟩ (.int .i64 r2.code)) = w4 at hst4 hr4 ⊢
            obtain ⟨⟨cy', f0', f1', f2', f3', f4', f5', hx4⟩, _⟩ := hst4.ref
            obtain ⟨bx5, hcx5⟩ := set10 (hst4.hp.blk hx4) (.slice (some ⟨gg, 0, none⟩) ws2.length cg) (.slice (some ⟨gb, 0, none⟩) ws2.length ws2.length) (.int .i64 e0) (.int .i64 e1) (.int .i64 e2) (.int .i64 e3) (.int .i64 e4) (.int .i64 e5) (.int .i64 (-1)) (.bool false)
            obtain ⟨χ5, m5, hst5⟩ := hst4.refnew hcx5 bx5 (hr4.chg hcx5 hggx hgbx) HOK2.out.2.2.1 HR.out.2.2.2.1
            generalize ((((((((((w4.setCell ⟨bx, 0, none⟩ (.slice (some ⟨gg, 0, none⟩) ws2.length cg)).setCell ⟨bx, 1, none⟩ (.slice (some ⟨gb, 0, none⟩) ws2.length ws2.length)).setCell ⟨bx, 2, none⟩ (.int .i64 e0)).setCell ⟨bx, 3, none⟩ (.int .i64 e1)).setCell ⟨bx, 4, none⟩ (.int .i64 e2)).setCell ⟨bx, 5, none⟩ (.int .i64 e3)).setCell ⟨bx, 6, none⟩ (.int .i64 e4)).setCell ⟨bx, 7, none⟩ (.int .i64 e5)).setCell ⟨bx, 8, none⟩ (.int .i64 (-1))).setCell ⟨bx, 9, none⟩ (.bool false)) = w5 at hst5 ⊢
            have hset : ((es.set t (Ent.mk bo o2 r)).set t (Ent.mk bo o2 r2)) = es.set t (Ent.mk bo o2 r2) := List.set_set ..
            have HFIN : Hid (∃ (es : List Ent) (χ : Nat → Nat) (m : HMap) (ws : List Nat) (gw : Nat), es.length = n' ∧ (∀ e ∈ es, GRel e.o e.r) ∧ ws.getD 1 0 < 2 ^ M ∧ St W w5.drew χ m W.heap.size M b bw bb bx gw gb (.slice (some ⟨g7, 0, none⟩) n' cap7) (.slice (some ⟨g8, 0, none⟩) n' cap8) ws ws (es.map Ent.bo) es) := Lib.hid ⟨es.set t (Ent.mk bo o2 r2), χ5, m5, ws2, gg, by rw [List.length_set]; exact HEL.out, fun f hf => by
              rcases List.mem_or_eq_of_mem_set hf with h | h
              · exact HEQ.out f h
              · rw [h]; exact HRE.out, HOK2.out.2.2.2, by
              rw [map_bo_set (e' := Ent.mk bo o2 r2) HE.out rfl, ← hset]
              exact hst5.drew⟩
            clear hc8 b8 hst4 hr4 hgg8 hgb8 hggx hgbx hx4 bx5 hcx5 hst5 hset
            go_roundg (200 - (k + 1))
            case measure => omega
            case rel => exact ⟨k + 1, by omega, by omega, rfl, by go_num, HFIN⟩
      · have t2 : decide ((k : Int) < 200) = false := by simp; omega
        clear h200
        go_wp2
        go_meet
        case rel => exact HI
    · have tk : decide (k < len') = false := by simp; omega
      clear hlt
      go_wp2
      go_meet
      case rel => exact HI
end Go.Proofs.Ytjmooohhndjmiaa
