/- CursorSteps: its first loop. (Printed by genst.py.) -/
import Derived.Test.YtobdpieijgiaoaaStepsH
namespace Go.Proofs.Ytobdpieijgiaoaa
open Go.RowKit Go.Deep
set_option linter.unusedSimpArgs false
set_option linter.unusedVariables false
set_option maxHeartbeats 40000000 in
set_option maxRecDepth 100000 in
theorem loop1_walk (n : Int) (A : Option Addr) (len cap : Nat) (l : List (List Int)) (A' : Option Addr) (len' cap' : Nat) (l' : List (List Int)) (W WW : World) (hlen : len ≤ 9223372036854775807) (hlen' : len' ≤ 9223372036854775807) (HLR : Hid (RowsAt W [.i64, .i64] A len cap l)) (HLP : Hid (RowsAt W [.i64] A' len' cap' l')) (s : Nat) (HR : Hid (rightC ((0 : Nat) : Int) (s : Int) = true)) (hs8 : s ≤ 8 ∧ 1 ≤ s) (b bw bb gw gb bx ba : Nat) (HS0 : Hid (∃ χ m, St W WW χ m W.heap.size s ba b bw bb bx gw gb (.slice none 0 0) (.slice none 0 0) [5, 0, 0, 0] [5, 0, 0, 0] [] [])) (c28 c29 c30 c31 c32 c33 c34 c35 c36 c37 c38 c39 c40 c41 c42 c43 c44 c45 c46 c47 c48 c49 c50 c51 c52 c53 c54 : Value) (J K' : Act → World → Prop) (F : Ending → World → Prop)
    (hJ : ∀ a' w', (∃ u13 u14 u15 u16 u17 u55 u56 u57 u58 u59 u60 u61 u62 u63 u64 u65 u66 u67 u68 u69 u70 u71 u72 u73 u74 u75 u76 u77 u78 u79 u80 u81 u82 u83 u84 u85 u86 u87 u88 u89 u90 u91 u92 u93 u94 u95 u96 u97 u98 u99 u100 u101 u102 u103 u104 u105 u106 : Value, (∃ (es : List Ent) (χ : Nat → Nat) (m : HMap), es.length ≤ 10 ∧ Hid (∀ e ∈ es, e.r = e.o) ∧ Hid (es.length = 0 → u13 = .slice none 0 0 ∧ u14 = .slice none 0 0) ∧ Hid (St W w' χ m W.heap.size s ba b bw bb bx gw gb u13 u14 [5, 0, 0, 0] [5, 0, 0, 0] (es.map Ent.bo) es)) ∧ a' = ⟨#[.int .i64 n, .slice A len cap, .slice A' len' cap', undef, undef, undef, .bool false, .pointer (some ⟨W.heap.size, 0, none⟩), .pointer (some ⟨b, 0, none⟩), .int .i64 0, .pointer (some ⟨bx, 0, none⟩), .int .i64 0, .slice (some ⟨ba, 0, none⟩) 3 3, u13, u14, u15, u16, u17, undef, undef, undef, undef, undef, undef, undef, undef, undef, undef, c28, c29, c30, c31, c32, c33, c34, c35, c36, c37, c38, c39, c40, c41, c42, c43, c44, c45, c46, c47, c48, c49, c50, c51, c52, c53, c54, u55, u56, u57, u58, u59, u60, u61, u62, u63, u64, u65, u66, u67, u68, u69, u70, u71, u72, u73, u74, u75, u76, u77, u78, u79, u80, u81, u82, u83, u84, u85, u86, u87, u88, u89, u90, u91, u92, u93, u94, u95, u96, u97, u98, u99, u100, u101, u102, u103, u104, u105, u106, undef, undef, undef, undef, undef, undef, undef, undef, undef, undef, undef, undef, undef, undef, undef, undef, undef, undef, undef, undef, undef, undef, undef, undef, undef, undef, undef, undef, undef, undef, undef, undef, undef, undef, undef, undef, undef, undef, undef, undef, undef, undef, undef, undef, undef, undef, undef, undef, undef, undef, undef, undef, undef, undef, undef, undef, undef, undef, undef, undef, undef, undef, undef, undef, undef, undef, undef, undef, undef, undef, undef, undef, undef, undef, undef, undef, undef, undef, undef, undef, undef, undef, undef, undef, undef, undef, undef, undef, undef, undef, undef, undef, undef, undef, undef, undef, undef, undef, undef, undef, undef, undef, undef, undef, undef, undef, undef, undef, undef, undef, undef, undef, undef, undef, undef, undef, undef, undef, undef, undef, undef, undef, undef, undef, undef, undef, undef, undef, undef, undef, undef, undef, undef, undef, undef, undef, undef, undef, undef, undef, undef, undef, undef, undef, undef, undef, undef, undef, undef, undef, undef, undef, undef, undef, undef, undef, undef, undef, undef, undef, undef, undef, undef, undef, undef, undef, undef, undef, undef, undef, undef, undef, undef, undef, undef], []⟩) → J a' w') (hK : ∀ a' w', Met J a' w' → K' a' w') :
    Code.wp Try.prog blk0 (Exit.then K' (bodyPost Try.prog Try.f6 F)) ⟨#[.int .i64 n, .slice A len cap, .slice A' len' cap', undef, undef, undef, .bool false, .pointer (some ⟨W.heap.size, 0, none⟩), .pointer (some ⟨b, 0, none⟩), .int .i64 0, .pointer (some ⟨bx, 0, none⟩), .int .i64 0, .slice (some ⟨ba, 0, none⟩) 3 3, .slice none 0 0, .slice none 0 0, .int .i64 0, undef, undef, undef, undef, undef, undef, undef, undef, undef, undef, undef, undef, c28, c29, c30, c31, c32, c33, c34, c35, c36, c37, c38, c39, c40, c41, c42, c43, c44, c45, c46, c47, c48, c49, c50, c51, c52, c53, c54, undef, undef, undef, undef, undef, undef, undef, undef, undef, undef, undef, undef, undef, undef, undef, undef, undef, undef, undef, undef, undef, undef, undef, undef, undef, undef, undef, undef, undef, undef, undef, undef, undef, undef, undef, undef, undef, undef, undef, undef, undef, undef, undef, undef, undef, undef, undef, undef, undef, undef, undef, undef, undef, undef, undef, undef, undef, undef, undef, undef, undef, undef, undef, undef, undef, undef, undef, undef, undef, undef, undef, undef, undef, undef, undef, undef, undef, undef, undef, undef, undef, undef, undef, undef, undef, undef, undef, undef, undef, undef, undef, undef, undef, undef, undef, undef, undef, undef, undef, undef, undef, undef, undef, undef, undef, undef, undef, undef, undef, undef, undef, undef, undef, undef, undef, undef, undef, undef, undef, undef, undef, undef, undef, undef, undef, undef, undef, undef, undef, undef, undef, undef, undef, undef, undef, undef, undef, undef, undef, undef, undef, undef, undef, undef, undef, undef, undef, undef, undef, undef, undef, undef, undef, undef, undef, undef, undef, undef, undef, undef, undef, undef, undef, undef, undef, undef, undef, undef, undef, undef, undef, undef, undef, undef, undef, undef, undef, undef, undef, undef, undef, undef, undef, undef, undef, undef, undef, undef, undef, undef, undef, undef, undef, undef, undef, undef, undef, undef, undef, undef, undef, undef, undef, undef, undef, undef, undef, undef, undef, undef, undef, undef, undef, undef, undef, undef, undef, undef, undef, undef, undef, undef, undef, undef, undef, undef, undef], []⟩ WW := by
  conv => arg 2; whnf
  let Q' := bodyPost Try.prog Try.f6 F
  change Code.wp _ _ (Exit.then K' Q') _ _
  go_wp2_with fail
  go_loopg [13, 14, 15] 10 (fun g v7 v8 i wr => ∃ (k : Nat) (es : List Ent) (χ : Nat → Nat) (m : HMap), k ≤ len ∧ k ≤ 10 ∧ g = 10 - k ∧ i = .int .i64 k ∧ es.length = k ∧ Hid (∀ e ∈ es, e.r = e.o) ∧ Hid (k = 0 → v7 = .slice none 0 0 ∧ v8 = .slice none 0 0) ∧ Hid (St W wr χ m W.heap.size s ba b bw bb bx gw gb v7 v8 [5, 0, 0, 0] [5, 0, 0, 0] (es.map Ent.bo) es))
  case atStart =>
    obtain ⟨χ, m, h⟩ := HS0.out
    exact ⟨0, [], χ, m, by omega, by omega, rfl, rfl, rfl, Lib.hid (by simp), Lib.hid (fun _ => ⟨rfl, rfl⟩), Lib.hid h⟩
  case round =>
    clear HS0
    obtain ⟨k, es, χ, m, hk, hk10, rfl, rfl, hel, HEQ, HNIL, HI⟩ := hrel
    have HEL := Lib.hid hel
    clear hel
    by_cases hlt : k < len
    · by_cases h10 : k < 10
      · have t10 : decide ((k : Int) < 10) = true := by simp; omega
        obtain ⟨bl, ol, z1, z2, rfl, hc0, hc1, _⟩ := ask_cells (HLR.out.below HI.out.hp.below) hlt
        have y1 : wr.cell? ⟨W.heap.size, 1, none⟩ = some (.int .i64 s) := (HI.out.hp.blk HI.out.box.1).cell 1
        obtain ⟨d, hd⟩ : ∃ d : Nat, z1 % 8 = d := ⟨(z1 % 8).toNat, by omega⟩
        have hand : bits .and .i64 z1 7 = (d : Int) := by rw [and7, hd]
        obtain ⟨q, hq⟩ : ∃ q : Nat, z2 % 4 = q := ⟨(z2 % 4).toNat, by omega⟩
        have hand2 : bits .and .i64 z2 3 = (q : Int) := by rw [and3, hq]
        obtain ⟨mm, hmm⟩ : ∃ mm, d % (s + 1) = mm := ⟨_, rfl⟩
        have hms : mm ≤ s := by have := Nat.mod_lt d (show 0 < s + 1 by omega); omega
        have hs00 : ¬ (s : Int) + 1 = 0 := by omega
        have hmi : (d : Int) % ((s : Int) + 1) = (mm : Int) := by rw [← hmm]; simp
        have HMI := Lib.hid hmi
        have hq0 : (0 : Int) ≤ (q : Int) := by omega
        have hq3 : (q : Int) ≤ 3 := by omega
        have HMS := Lib.hid hms
        have HQ := Lib.hid (show q ≤ 3 by omega)
        clear hd hmm hmi hq
        obtain ⟨words, hwl, hwx, hwc⟩ := words_of q (show q ≤ 3 by omega)
        subst hwl
        go_wp2_with fail
        go_quiet (fail)
        have hc1' := kcell (below_of_chg ((Chg.refl (fun _ => False) wr).drewN nq)) hc1
        have hst1 := HI.out.keep (below_of_chg ((Chg.refl _ wr).drewN nq))
        generalize wr.drewN nq = w7 at hst1 hc1' ⊢
        rw [HMI.out]
        have H7 := Lib.hid hst1
        have x0 : w7.cell? ⟨W.heap.size, 0, none⟩ = some (.int .i64 0) := (hst1.hp.blk hst1.box.1).cell 0
        have x1 : w7.cell? ⟨W.heap.size, 1, none⟩ = some (.int .i64 s) := (hst1.hp.blk hst1.box.1).cell 1
        have HWC : Hid (∀ W', Blk W' ba 3 [.int .i64 1, .int .i64 2, .int .i64 3] → 0 < words.length → ∃ ad, (some (⟨ba, 0, none⟩ : Addr)) = some ad ∧ ∀ j v, (intVals (words.map fun x : Nat => (x : Int)))[j]? = some v → W'.cell? (ad.add j) = some v) := Lib.hid (fun W' hb _ => ⟨_, rfl, fun j v hv => by
          rw [add_none, Nat.zero_add]
          exact (hb.cell j).trans (hwc j v hv)⟩)
        have HWX := Lib.hid hwx
        obtain ⟨i0, hi, hz⟩ := Option.map_eq_some_iff.1 info_opp
        simp only [Prod.mk.injEq] at hz
        obtain ⟨hz0, hz1, hz2⟩ := hz
        have HIN := Lib.hid hi; have HZ0 := Lib.hid hz0; have HZ1 := Lib.hid hz1; have HZ2 := Lib.hid hz2
        clear hi hz0 hz1 hz2 hst1 hand hc0 hc1 y1 hwx hwc
        by_cases hm0 : mm = 0
        · have tm : ((mm : Int) == 0) = true := by rw [hm0]; rfl
          have HM0 := Lib.hid hm0
          clear hm0
          go_wp2_with fail
          refine (s_tell H7.out.sys HR.out).mono ?_; rintro e w8 ⟨bo, bwd, rfl, ho, _, hap, hge, hg1, hg2, hb⟩
          have H8 := Lib.hid (H7.out.keep hb)
          have HO := Lib.hid (And.intro ho (And.intro hap (And.intro hge (And.intro hg1 hg2))))
          clear ho hap hge hg1 hg2 hb x0 x1 hc1' hand2
          go_wp2_with (first | (at_builtin; (refine wpList_append_own_at _ rfl (.tmp 85) (.tmp 88) 59 rfl W.heap.size 29 i0 (.pointer none) 1 8 Try.underlying59 HIN.out HZ0.out HZ1.out HZ2.out rfl (by decide) u13 (es.map Ent.bo).length (ptrs (es.map Ent.bo)) rfl (RowIn.owns (H8.out.alloc _).hp H8.out.r7) ⟨w8.heap.size, 0, none⟩ 1 1 [.pointer (some ⟨bo, 0, none⟩)] rfl rfl (cell_one_new _ _ _) ?c1 ?c3 ?c4 ?c5 ?_)))
          case c1 => simp; rfl
          case c3 => simp [maxLen, HEL.out]; omega
          case c4 => simp [HEL.out]; omega
          case c5 => have := H8.out.hp.below.size; simp; omega
          intro v9 w9 hown hg _ hs
          obtain ⟨χ9, m9, hst9, hχ9, g9, cap9, hv9⟩ := (H8.out.alloc (.cells #[.pointer (some ⟨bo, 0, none⟩)] 29)).app7 (p := bo) (by rw [List.length_map]; exact hown) hg (hs.imp id (fun h => by rw [World.size_alloc]; exact h))
          rw [List.length_map, HEL.out] at hv9
          subst hv9
          have f0 := H7.out.hp.fresh HO.out.2.2.2.1
          have f1 := H7.out.hp.fresh HO.out.2.2.2.2
          have ho9 := opAt_grown (HO.out.1.keep (bnew (Below.refl _ _) (.cells #[.pointer (some ⟨bo, 0, none⟩)] 29))) hg (H8.out.ne7 f0) (H8.out.ne7 f1)
          have hl9 : bo < (w8.alloc (.cells #[.pointer (some ⟨bo, 0, none⟩)] 29)).heap.size ∧ bwd < (w8.alloc (.cells #[.pointer (some ⟨bo, 0, none⟩)] 29)).heap.size := by
            have := HO.out.1.lt
            simp; omega
          obtain ⟨w10, hw10⟩ : ∃ w10, w10 = (w9.alloc (.cells #[] 3)).drew := ⟨_, rfl⟩
          obtain ⟨bq, hbq0⟩ : ∃ bq, bq = w9.heap.size := ⟨_, rfl⟩
          have hbq : Blk w10 bq 3 (intVals (([] : List Nat).map fun x : Nat => (x : Int)) ++ []) := by rw [hw10, hbq0]; exact blk_new w9 3 #[] [] rfl
          have hgq : w9.drew.heap.size ≤ bq := by rw [hbq0]; exact Nat.le_refl _
          have hb10 : Below w9.drew.heap.size w9.drew w10 := by rw [hw10]; exact bnew (Below.refl _ _) _
          obtain ⟨e, he⟩ : ∃ e : Ent, e = ⟨bo, bwd, ⟨0, s, mm, [], 0, 0, 0, 0, 0⟩, ⟨0, s, mm, [], 0, 0, 0, 0, 0⟩, bq, 0⟩ := ⟨_, rfl⟩
          have ho10 : OpAt w10 e.bo e.bwd e.o := by rw [he]; have h := (ho9.keep (Below.refl _ _).drew).keep hb10; have e0 := HM0.out; subst e0; exact h
          have hst10 := hst9.drew.keep hb10
          obtain ⟨v11, w11, hrun2, hown2, hg2, hs2⟩ := hst10.run8 (by rw [HEL.out]; omega) e
          have hl8 := HO.out.1.lt
          have hs8 : w8.heap.size ≤ w9.heap.size := by have := hg.size; simp at this; omega
          have hs9 : w9.drew.heap.size = w9.heap.size := rfl
          have hok : NOk e.o 4 := by rw [he]; exact ⟨by show 0 < 4; decide, by show s ≤ 1024; omega, by show mm ≤ 1024; have := HMS.out; omega, (fun x hx => by cases hx), by show ([] : List Nat).length ≤ 64; decide, by show 0 < 18446744073709551616; decide, by show 0 < 18446744073709551616; decide, fun h => absurd h (by show ¬ 0 = 1; decide), by show 0 ≤ 3; decide⟩
          obtain ⟨χ11, m11, hst11, g11, cap11, hv11⟩ := (hst10.alloc (.cells e.vals.toArray 62)).app8 (e := e) hown2 hg2 hs2 (ho10.keep (bnew (Below.refl _ _) _)) (rest := []) (by rw [he]; exact hbq.alloc _) (by rw [he]; exact (hχ9 _ hl9.1).trans f0) (by rw [he]; exact (hχ9 _ hl9.2).trans f1) (by rw [he]; exact hst9.hp.fresh hgq)
            (by rw [he]; exact HO.out.2.1.nn) (by rw [he]; show bo ≠ bq; omega) (by rw [he]; show bwd ≠ bq; omega) (by rw [he]; exact HO.out.2.2.1) (by rw [he]; show W.heap.size ≤ bwd; have := HO.out.2.2.2.2; have := H7.out.hp.below.size; omega) (by rw [he]; show W.heap.size ≤ bq; have := HO.out.2.2.1; omega) hok (by rw [he]; exact fun _ => rfl) (by rw [he]) (by rw [he])
          have hrun2' : (Builtin.append_ #[60, 60] 60 #[u14, .slice (some ⟨w10.heap.size, 0, none⟩) 1 1]).run Try.prog (w10.alloc (.cells #[.int .i64 0, .int .i64 s, .int .i64 mm, .slice (some ⟨bq, 0, none⟩) 0 0, .int .i64 0, .int .i64 0, .int .u64 0, .int .u64 0, .int .i64 0] 62)) = .ok v11 w11 := by rw [he] at hrun2; exact hrun2
          rw [HEL.out] at hv11
          subst hv11
          have y1 : w9.cell? ⟨W.heap.size, 1, none⟩ = some (.int .i64 s) := (hst9.hp.blk hst9.box.1).cell 1
          have hy10 : w10.cell? ⟨W.heap.size, 1, none⟩ = some (.int .i64 s) := (hst10.hp.blk hst10.box.1).cell 1
          have hy11 : w11.cell? ⟨W.heap.size, 1, none⟩ = some (.int .i64 s) := (hst11.hp.blk hst11.box.1).cell 1
          have HY := Lib.hid (And.intro hy10 hy11)
          have H11 := Lib.hid (show ∃ es' χ m, es'.length = k + 1 ∧ Hid (∀ e ∈ es', e.r = e.o) ∧ Hid (St W w11 χ m W.heap.size s ba b bw bb bx gw gb (.slice (some ⟨g9, 0, none⟩) (k + 1) cap9) (.slice (some ⟨g11, 0, none⟩) (k + 1) cap11) [5, 0, 0, 0] [5, 0, 0, 0] (es'.map Ent.bo) es') from
            ⟨es ++ [e], χ11, m11, by rw [List.length_append, HEL.out]; rfl, Lib.hid (by
              intro f hf
              rcases List.mem_append.1 hf with h | h
              · exact HEQ.out f h
              · simp at h; rw [h, he]), Lib.hid (by
              rw [List.map_append]
              have : List.map Ent.bo [e] = [bo] := by rw [he]; rfl
              rw [this]; exact hst11)⟩)
          clear hst9 hχ9 f0 f1 ho9 hl9 hbq hgq hb10 ho10 hst10 hrun2 hown hg hs hown2 hg2 hs2 hl8 hs8 hs9 hok hst11 hy10 hy11 he
          go_upto_region 19 with fail
          refine wp_region_held_drew (S := (fun w' => w'.cell? ⟨W.heap.size, 1, none⟩ = some (.int .i64 s))) (by as_aux_lemma => kernel_rfl) (y1) (fun hH0 => ?_)
          refine take_first 0 (some 97) ?_ rfl rfl (by as_aux_lemma => kernel_rfl) (by as_aux_lemma => kernel_rfl) (by as_aux_lemma => kernel_rfl) (fun _ _ _ h => h) rfl ?hy hH0 ?_
          case hy => (intro w0 hS0; (try dsimp only at hS0); (try go_simp); try with_reducible rfl)
          try simp only [Act.put, List.setIfInBounds_toArray, List.set_cons_zero, List.set_cons_succ]
          refine take_first 1 (some 98) ?_ rfl rfl (by as_aux_lemma => kernel_rfl) (by as_aux_lemma => kernel_rfl) (by as_aux_lemma => kernel_rfl) (fun _ _ _ h => h) rfl ?hy hH0 ?_
          case hy => (intro w0 hS0; (try dsimp only at hS0); (try go_simp); try with_reducible rfl)
          try simp only [Act.put, List.setIfInBounds_toArray, List.set_cons_zero, List.set_cons_succ]
          refine take_first 2 (some 99) ?_ rfl rfl (by as_aux_lemma => kernel_rfl) (by as_aux_lemma => kernel_rfl) (by as_aux_lemma => kernel_rfl) (fun _ _ _ h => h) rfl ?hy hH0 ?_
          case hy => (intro w0 hS0; (try dsimp only at hS0); (try go_simp); try with_reducible rfl)
          try simp only [Act.put, List.setIfInBounds_toArray, List.set_cons_zero, List.set_cons_succ]
          refine take_first 3 (some 100) ?_ rfl rfl (by as_aux_lemma => kernel_rfl) (by as_aux_lemma => kernel_rfl) (by as_aux_lemma => kernel_rfl) (fun _ _ _ h => h) rfl ?hy hH0 ?_
          case hy => (intro w0 hS0; (try dsimp only at hS0); (try go_simp); try with_reducible rfl)
          try simp only [Act.put, List.setIfInBounds_toArray, List.set_cons_zero, List.set_cons_succ]
          refine take_first 5 (some 102) ?_ rfl rfl (by as_aux_lemma => kernel_rfl) (by as_aux_lemma => kernel_rfl) (by as_aux_lemma => kernel_rfl) (fun _ _ _ h => h) rfl ?hy hH0 ?_
          case hy => (intro w0 hS0; (try dsimp only at hS0); (try go_simp); try with_reducible rfl)
          try simp only [Act.put, List.setIfInBounds_toArray, List.set_cons_zero, List.set_cons_succ]
          refine wpAnyH_ready (rs := [4]) (by as_aux_lemma => kernel_rfl) (by simp) (AllReadyH.cons rfl (fun K hK => ?_) AllReadyH.nil)
          go_simp
          refine hK.out _ _ (kalloc _ hH0) (fun hH1 => ?_)
          clear hK
          try simp only [Act.put, List.setIfInBounds_toArray, List.set_cons_zero, List.set_cons_succ]
          refine wpAnyH_ready (rs := [6]) (by as_aux_lemma => kernel_rfl) (by simp) (AllReadyH.cons rfl (fun K hK => ?_) AllReadyH.nil)
          go_simp
          rw [← hw10, ← hbq0]
          clear hw10 hbq0
          refine hK.out _ _ (HY.out.1) (fun hH2 => ?_)
          clear hK
          clear hH1
          try simp only [Act.put, List.setIfInBounds_toArray, List.set_cons_zero, List.set_cons_succ]
          refine take_first 7 (some 104) ?_ rfl rfl (by as_aux_lemma => kernel_rfl) (by as_aux_lemma => kernel_rfl) (by as_aux_lemma => kernel_rfl) (fun _ _ _ h => h) rfl ?hy hH2 ?_
          case hy => (intro w0 hS0; (try dsimp only at hS0); (try go_simp); try with_reducible rfl)
          try simp only [Act.put, List.setIfInBounds_toArray, List.set_cons_zero, List.set_cons_succ]
          refine wpAnyH_ready (rs := [8]) (by as_aux_lemma => kernel_rfl) (by simp) (AllReadyH.cons rfl (fun K hK => ?_) AllReadyH.nil)
          go_simp
          refine hK.out _ _ (kalloc _ hH2) (fun hH3 => ?_)
          clear hK
          clear hH2
          try simp only [Act.put, List.setIfInBounds_toArray, List.set_cons_zero, List.set_cons_succ]
          refine wpAnyH_ready (rs := [9]) (by as_aux_lemma => kernel_rfl) (by simp) (AllReadyH.cons rfl (fun K hK => ?_) AllReadyH.nil)
          rw [if_pos (by as_aux_lemma => kernel_rfl)]
          refine oper_append (.tmp 97) (.tmp 105) 60 rfl rfl rfl hrun2' ?_
          simp only [Act.put, List.setIfInBounds_toArray, List.set_cons_zero, List.set_cons_succ]
          refine hK.out _ _ (HY.out.2) (fun hH4 => ?_)
          clear hK
          clear hH3
          try simp only [Act.put, List.setIfInBounds_toArray, List.set_cons_zero, List.set_cons_succ]
          refine take_first 10 (some 14) ?_ rfl rfl (by as_aux_lemma => kernel_rfl) (by as_aux_lemma => kernel_rfl) (by as_aux_lemma => kernel_rfl) (fun _ _ _ h => h) rfl ?hy hH4 ?_
          case hy => (intro w0 hS0; (try dsimp only at hS0); (try go_simp); try with_reducible rfl)
          try simp only [Act.put, List.setIfInBounds_toArray, List.set_cons_zero, List.set_cons_succ]
          refine wpAnyH_done (by as_aux_lemma => kernel_rfl) ?_ _
          obtain ⟨es', χ', m', hel', HEQ', HST'⟩ := H11.out
          clear H11 HY
          go_wp2
          go_roundg (10 - (k + 1))
          case measure => omega
          case rel => exact ⟨k + 1, es', χ', m', by omega, by omega, by omega, by go_num, hel', HEQ', Lib.hid (fun h => by omega), HST'⟩
        · have tm : ((mm : Int) == 0) = false := kz hm0
          have hmp : 1 ≤ mm := by omega
          clear hm0
          go_wp2_with fail
          refine (s_claim (m := mm) (words := words) (some ⟨ba, 0, none⟩) 3 H7.out.sys HR.out ⟨hmp, HMS.out⟩ (by have := HQ.out; omega) (HWC.out w7 (H7.out.hp.blk H7.out.box.2))).mono ?_; rintro e w8 ⟨bo, bwd, rfl, ho, _, hap, hge, hg1, hg2, hb⟩
          have H8 := Lib.hid (H7.out.keep hb)
          have HO := Lib.hid (And.intro ho (And.intro hap (And.intro hge (And.intro hg1 hg2))))
          clear ho hap hge hg1 hg2 hb x0 x1 hc1' hand2
          go_wp2_with (first | (at_builtin; (refine wpList_append_own_at _ rfl (.tmp 90) (.tmp 95) 59 rfl W.heap.size 29 i0 (.pointer none) 1 8 Try.underlying59 HIN.out HZ0.out HZ1.out HZ2.out rfl (by decide) u13 (es.map Ent.bo).length (ptrs (es.map Ent.bo)) rfl (RowIn.owns (H8.out.alloc _).hp H8.out.r7) ⟨w8.heap.size, 0, none⟩ 1 1 [.pointer (some ⟨bo, 0, none⟩)] rfl rfl (cell_one_new _ _ _) ?c1 ?c3 ?c4 ?c5 ?_)))
          case c1 => simp; rfl
          case c3 => simp [maxLen, HEL.out]; omega
          case c4 => simp [HEL.out]; omega
          case c5 => have := H8.out.hp.below.size; simp; omega
          intro v9 w9 hown hg _ hs
          obtain ⟨χ9, m9, hst9, hχ9, g9, cap9, hv9⟩ := (H8.out.alloc (.cells #[.pointer (some ⟨bo, 0, none⟩)] 29)).app7 (p := bo) (by rw [List.length_map]; exact hown) hg (hs.imp id (fun h => by rw [World.size_alloc]; exact h))
          rw [List.length_map, HEL.out] at hv9
          subst hv9
          have f0 := H7.out.hp.fresh HO.out.2.2.2.1
          have f1 := H7.out.hp.fresh HO.out.2.2.2.2
          have ho9 := opAt_grown (HO.out.1.keep (bnew (Below.refl _ _) (.cells #[.pointer (some ⟨bo, 0, none⟩)] 29))) hg (H8.out.ne7 f0) (H8.out.ne7 f1)
          have hl9 : bo < (w8.alloc (.cells #[.pointer (some ⟨bo, 0, none⟩)] 29)).heap.size ∧ bwd < (w8.alloc (.cells #[.pointer (some ⟨bo, 0, none⟩)] 29)).heap.size := by
            have := HO.out.1.lt
            simp; omega
          have hex : ∃ (bq cq : Nat) (w10 : World) (rest : List Value), (Builtin.append_ #[34, 34] 34 #[.slice (some ⟨w9.heap.size, 0, none⟩) 0 0, .slice (some ⟨ba, 0, none⟩) words.length 3]).run Try.prog ((w9.alloc (.cells #[] 3)).drew) = .ok (.slice (some ⟨bq, 0, none⟩) words.length cq) w10 ∧
              Blk w10 bq 3 (intVals (words.map fun x : Nat => (x : Int)) ++ rest) ∧ w9.drew.heap.size ≤ bq ∧ Below w9.drew.heap.size w9.drew w10 := copy_run w9.drew (.slice (some ⟨ba, 0, none⟩) words.length 3) words (by have := HQ.out; omega) (by
            rcases Nat.eq_zero_or_pos words.length with h0 | h0
            · exact .inr ⟨⟨ba, 0, none⟩, 3, rfl, fun j v hv => by rw [List.eq_nil_of_length_eq_zero h0] at hv; simp [intVals] at hv⟩
            · obtain ⟨ad, h1, h2⟩ := HWC.out w9.drew (hst9.hp.blk hst9.box.2) h0
              injection h1 with h1
              subst h1
              exact .inr ⟨⟨ba, 0, none⟩, 3, rfl, h2⟩)
          obtain ⟨bq, cq, w10, rest, hrun1, hbq, hgq, hb10⟩ := hex
          obtain ⟨e, he⟩ : ∃ e : Ent, e = ⟨bo, bwd, ⟨0, s, mm, words, 0, 0, 0, 0, 0⟩, ⟨0, s, mm, words, 0, 0, 0, 0, 0⟩, bq, cq⟩ := ⟨_, rfl⟩
          have ho10 : OpAt w10 e.bo e.bwd e.o := by rw [he]; exact (ho9.keep (Below.refl _ _).drew).keep hb10
          have hst10 := hst9.drew.keep hb10
          obtain ⟨v11, w11, hrun2, hown2, hg2, hs2⟩ := hst10.run8 (by rw [HEL.out]; omega) e
          have hl8 := HO.out.1.lt
          have hs8 : w8.heap.size ≤ w9.heap.size := by have := hg.size; simp at this; omega
          have hs9 : w9.drew.heap.size = w9.heap.size := rfl
          have hok : NOk e.o 4 := by rw [he]; exact ⟨by show 0 < 4; decide, by show s ≤ 1024; omega, by show mm ≤ 1024; have := HMS.out; omega, HWX.out, by show (words : List Nat).length ≤ 64; have := HQ.out; omega, by show 0 < 18446744073709551616; decide, by show 0 < 18446744073709551616; decide, fun h => absurd h (by show ¬ 0 = 1; decide), by show 0 ≤ 3; decide⟩
          obtain ⟨χ11, m11, hst11, g11, cap11, hv11⟩ := (hst10.alloc (.cells e.vals.toArray 62)).app8 (e := e) hown2 hg2 hs2 (ho10.keep (bnew (Below.refl _ _) _)) (rest := rest) (by rw [he]; exact hbq.alloc _) (by rw [he]; exact (hχ9 _ hl9.1).trans f0) (by rw [he]; exact (hχ9 _ hl9.2).trans f1) (by rw [he]; exact hst9.hp.fresh hgq)
            (by rw [he]; exact HO.out.2.1.nn) (by rw [he]; show bo ≠ bq; omega) (by rw [he]; show bwd ≠ bq; omega) (by rw [he]; exact HO.out.2.2.1) (by rw [he]; show W.heap.size ≤ bwd; have := HO.out.2.2.2.2; have := H7.out.hp.below.size; omega) (by rw [he]; show W.heap.size ≤ bq; have := HO.out.2.2.1; omega) hok (by rw [he]; exact fun _ => rfl) (by rw [he]) (by rw [he])
          have hrun2' : (Builtin.append_ #[60, 60] 60 #[u14, .slice (some ⟨w10.heap.size, 0, none⟩) 1 1]).run Try.prog (w10.alloc (.cells #[.int .i64 0, .int .i64 s, .int .i64 mm, .slice (some ⟨bq, 0, none⟩) words.length cq, .int .i64 0, .int .i64 0, .int .u64 0, .int .u64 0, .int .i64 0] 62)) = .ok v11 w11 := by rw [he] at hrun2; exact hrun2
          rw [HEL.out] at hv11
          subst hv11
          have y1 : w9.cell? ⟨W.heap.size, 1, none⟩ = some (.int .i64 s) := (hst9.hp.blk hst9.box.1).cell 1
          have hy10 : w10.cell? ⟨W.heap.size, 1, none⟩ = some (.int .i64 s) := (hst10.hp.blk hst10.box.1).cell 1
          have hy11 : w11.cell? ⟨W.heap.size, 1, none⟩ = some (.int .i64 s) := (hst11.hp.blk hst11.box.1).cell 1
          have HY := Lib.hid (And.intro hy10 hy11)
          have H11 := Lib.hid (show ∃ es' χ m, es'.length = k + 1 ∧ Hid (∀ e ∈ es', e.r = e.o) ∧ Hid (St W w11 χ m W.heap.size s ba b bw bb bx gw gb (.slice (some ⟨g9, 0, none⟩) (k + 1) cap9) (.slice (some ⟨g11, 0, none⟩) (k + 1) cap11) [5, 0, 0, 0] [5, 0, 0, 0] (es'.map Ent.bo) es') from
            ⟨es ++ [e], χ11, m11, by rw [List.length_append, HEL.out]; rfl, Lib.hid (by
              intro f hf
              rcases List.mem_append.1 hf with h | h
              · exact HEQ.out f h
              · simp at h; rw [h, he]), Lib.hid (by
              rw [List.map_append]
              have : List.map Ent.bo [e] = [bo] := by rw [he]; rfl
              rw [this]; exact hst11)⟩)
          clear hst9 hχ9 f0 f1 ho9 hl9 hbq hgq hb10 ho10 hst10 hrun2 hown hg hs hown2 hg2 hs2 hl8 hs8 hs9 hok hst11 hy10 hy11 he
          go_upto_region 19 with fail
          refine wp_region_held_drew (S := (fun w' => w'.cell? ⟨W.heap.size, 1, none⟩ = some (.int .i64 s))) (by as_aux_lemma => kernel_rfl) (y1) (fun hH0 => ?_)
          refine take_first 0 (some 97) ?_ rfl rfl (by as_aux_lemma => kernel_rfl) (by as_aux_lemma => kernel_rfl) (by as_aux_lemma => kernel_rfl) (fun _ _ _ h => h) rfl ?hy hH0 ?_
          case hy => (intro w0 hS0; (try dsimp only at hS0); (try go_simp); try with_reducible rfl)
          try simp only [Act.put, List.setIfInBounds_toArray, List.set_cons_zero, List.set_cons_succ]
          refine take_first 1 (some 98) ?_ rfl rfl (by as_aux_lemma => kernel_rfl) (by as_aux_lemma => kernel_rfl) (by as_aux_lemma => kernel_rfl) (fun _ _ _ h => h) rfl ?hy hH0 ?_
          case hy => (intro w0 hS0; (try dsimp only at hS0); (try go_simp); try with_reducible rfl)
          try simp only [Act.put, List.setIfInBounds_toArray, List.set_cons_zero, List.set_cons_succ]
          refine take_first 2 (some 99) ?_ rfl rfl (by as_aux_lemma => kernel_rfl) (by as_aux_lemma => kernel_rfl) (by as_aux_lemma => kernel_rfl) (fun _ _ _ h => h) rfl ?hy hH0 ?_
          case hy => (intro w0 hS0; (try dsimp only at hS0); (try go_simp); try with_reducible rfl)
          try simp only [Act.put, List.setIfInBounds_toArray, List.set_cons_zero, List.set_cons_succ]
          refine take_first 3 (some 100) ?_ rfl rfl (by as_aux_lemma => kernel_rfl) (by as_aux_lemma => kernel_rfl) (by as_aux_lemma => kernel_rfl) (fun _ _ _ h => h) rfl ?hy hH0 ?_
          case hy => (intro w0 hS0; (try dsimp only at hS0); (try go_simp); try with_reducible rfl)
          try simp only [Act.put, List.setIfInBounds_toArray, List.set_cons_zero, List.set_cons_succ]
          refine take_first 5 (some 102) ?_ rfl rfl (by as_aux_lemma => kernel_rfl) (by as_aux_lemma => kernel_rfl) (by as_aux_lemma => kernel_rfl) (fun _ _ _ h => h) rfl ?hy hH0 ?_
          case hy => (intro w0 hS0; (try dsimp only at hS0); (try go_simp); try with_reducible rfl)
          try simp only [Act.put, List.setIfInBounds_toArray, List.set_cons_zero, List.set_cons_succ]
          refine wpAnyH_ready (rs := [4]) (by as_aux_lemma => kernel_rfl) (by simp) (AllReadyH.cons rfl (fun K hK => ?_) AllReadyH.nil)
          go_simp
          refine hK.out _ _ (kalloc _ hH0) (fun hH1 => ?_)
          clear hK
          try simp only [Act.put, List.setIfInBounds_toArray, List.set_cons_zero, List.set_cons_succ]
          refine wpAnyH_ready (rs := [6]) (by as_aux_lemma => kernel_rfl) (by simp) (AllReadyH.cons rfl (fun K hK => ?_) AllReadyH.nil)
          rw [if_pos (by as_aux_lemma => kernel_rfl)]
          refine oper_append (.tmp 101) (.tmp 102) 34 rfl rfl rfl hrun1 ?_
          simp only [Act.put, List.setIfInBounds_toArray, List.set_cons_zero, List.set_cons_succ]
          refine hK.out _ _ (HY.out.1) (fun hH2 => ?_)
          clear hK
          clear hH1
          try simp only [Act.put, List.setIfInBounds_toArray, List.set_cons_zero, List.set_cons_succ]
          refine take_first 7 (some 104) ?_ rfl rfl (by as_aux_lemma => kernel_rfl) (by as_aux_lemma => kernel_rfl) (by as_aux_lemma => kernel_rfl) (fun _ _ _ h => h) rfl ?hy hH2 ?_
          case hy => (intro w0 hS0; (try dsimp only at hS0); (try go_simp); try with_reducible rfl)
          try simp only [Act.put, List.setIfInBounds_toArray, List.set_cons_zero, List.set_cons_succ]
          refine wpAnyH_ready (rs := [8]) (by as_aux_lemma => kernel_rfl) (by simp) (AllReadyH.cons rfl (fun K hK => ?_) AllReadyH.nil)
          go_simp
          refine hK.out _ _ (kalloc _ hH2) (fun hH3 => ?_)
          clear hK
          clear hH2
          try simp only [Act.put, List.setIfInBounds_toArray, List.set_cons_zero, List.set_cons_succ]
          refine wpAnyH_ready (rs := [9]) (by as_aux_lemma => kernel_rfl) (by simp) (AllReadyH.cons rfl (fun K hK => ?_) AllReadyH.nil)
          rw [if_pos (by as_aux_lemma => kernel_rfl)]
          refine oper_append (.tmp 97) (.tmp 105) 60 rfl rfl rfl hrun2' ?_
          simp only [Act.put, List.setIfInBounds_toArray, List.set_cons_zero, List.set_cons_succ]
          refine hK.out _ _ (HY.out.2) (fun hH4 => ?_)
          clear hK
          clear hH3
          try simp only [Act.put, List.setIfInBounds_toArray, List.set_cons_zero, List.set_cons_succ]
          refine take_first 10 (some 14) ?_ rfl rfl (by as_aux_lemma => kernel_rfl) (by as_aux_lemma => kernel_rfl) (by as_aux_lemma => kernel_rfl) (fun _ _ _ h => h) rfl ?hy hH4 ?_
          case hy => (intro w0 hS0; (try dsimp only at hS0); (try go_simp); try with_reducible rfl)
          try simp only [Act.put, List.setIfInBounds_toArray, List.set_cons_zero, List.set_cons_succ]
          refine wpAnyH_done (by as_aux_lemma => kernel_rfl) ?_ _
          obtain ⟨es', χ', m', hel', HEQ', HST'⟩ := H11.out
          clear H11 HY
          go_wp2
          go_roundg (10 - (k + 1))
          case measure => omega
          case rel => exact ⟨k + 1, es', χ', m', by omega, by omega, by omega, by go_num, hel', HEQ', Lib.hid (fun h => by omega), HST'⟩
      · have t10 : decide ((k : Int) < 10) = false := by simp; omega
        clear h10
        go_wp2
        go_meet
        case rel => exact ⟨es, χ, m, by rw [HEL.out]; exact hk10, HEQ, Lib.hid (fun h => HNIL.out (by rw [← HEL.out]; exact h)), HI⟩
    · have tk : decide (k < len) = false := by simp; omega
      clear hlt
      go_wp2
      go_meet
      case rel => exact ⟨es, χ, m, by rw [HEL.out]; exact hk10, HEQ, Lib.hid (fun h => HNIL.out (by rw [← HEL.out]; exact h)), HI⟩
end Go.Proofs.Ytobdpieijgiaoaa
