/- GateSteps: its first loop. (Printed by genstg.py.) -/
import Derived.Test.YtjmooohhndjmiaaGsH
namespace Go.Proofs.Ytjmooohhndjmiaa
open Go.RowKit Go.Deep
set_option linter.unusedSimpArgs false
set_option linter.unusedVariables false

set_option maxHeartbeats 40000000 in
set_option maxRecDepth 100000 in
theorem gloop1_walk (mn : Int) (A : Option Addr) (len cap : Nat) (l : List (List Int)) (A' : Option Addr) (len' cap' : Nat) (l' : List (List Int)) (W WW : World) (hlen : len ≤ 9223372036854775807) (hlen' : len' ≤ 9223372036854775807) (HLR : Hid (RowsAt W [.i64, .i64, .u64] A len cap l)) (HLP : Hid (RowsAt W [.i64] A' len' cap' l')) (M : Nat) (HG : Hid (GOk 1 M 0)) (HM4 : Hid (M ≤ 4)) (b bw bb gw gb bx : Nat) (HS0 : Hid (∃ χ m, St W WW χ m W.heap.size M b bw bb bx gw gb (.slice none 0 0) (.slice none 0 0) [0, 0, 0, 0, 0, 0] [0, 0, 0, 0, 0, 0] [] [])) (c27 c28 c29 c30 c31 c32 c33 c34 c35 c36 c37 c38 c39 c40 c41 c42 c43 c44 c45 c46 c47 c48 c49 c50 : Value) (J K' : Act → World → Prop) (F : Ending → World → Prop)
    (hJ : ∀ a' w', (∃ u12 u13 u14 u15 u16 u51 u52 u53 u54 u55 u56 u57 u58 u59 u60 u61 u62 u63 u64 u65 u66 u67 u68 u69 u70 u71 u72 u73 u74 u75 u76 u77 u78 u79 u80 u81 u82 u83 u84 u85 u86 u87 u88 u89 u90 u91 u92 u93 u94 u95 u96 u97 u98 u99 u100 u101 u102 : Value, (∃ (es : List Ent) (χ : Nat → Nat) (m : HMap), es.length ≤ 12 ∧ Hid (∀ e ∈ es, GRel e.o e.r) ∧ Hid (es.length = 0 → u12 = .slice none 0 0 ∧ u13 = .slice none 0 0) ∧ Hid (St W w' χ m W.heap.size M b bw bb bx gw gb u12 u13 [0, 0, 0, 0, 0, 0] [0, 0, 0, 0, 0, 0] (es.map Ent.bo) es)) ∧ a' = ⟨#[.int .i64 mn, .slice A len cap, .slice A' len' cap', undef, undef, undef, .bool false, .pointer (some ⟨W.heap.size, 0, none⟩), .pointer (some ⟨b, 0, none⟩), .int .i64 0, .pointer (some ⟨bx, 0, none⟩), .int .i64 0, u12, u13, u14, u15, u16, undef, undef, undef, undef, undef, undef, undef, undef, undef, undef, c27, c28, c29, c30, c31, c32, c33, c34, c35, c36, c37, c38, c39, c40, c41, c42, c43, c44, c45, c46, c47, c48, c49, c50, u51, u52, u53, u54, u55, u56, u57, u58, u59, u60, u61, u62, u63, u64, u65, u66, u67, u68, u69, u70, u71, u72, u73, u74, u75, u76, u77, u78, u79, u80, u81, u82, u83, u84, u85, u86, u87, u88, u89, u90, u91, u92, u93, u94, u95, u96, u97, u98, u99, u100, u101, u102, undef, undef, undef, undef, undef, undef, undef, undef, undef, undef, undef, undef, undef, undef, undef, undef, undef, undef, undef, undef, undef, undef, undef, undef, undef, undef, undef, undef, undef, undef, undef, undef, undef, undef, undef, undef, undef, undef, undef, undef, undef, undef, undef, undef, undef, undef, undef, undef, undef, undef, undef, undef, undef, undef, undef, undef, undef, undef, undef, undef, undef, undef, undef, undef, undef, undef, undef, undef, undef, undef, undef, undef, undef, undef, undef, undef, undef, undef, undef, undef, undef, undef, undef, undef, undef, undef, undef, undef, undef, undef, undef, undef, undef, undef, undef, undef, undef, undef, undef, undef, undef, undef, undef, undef, undef, undef, undef, undef, undef, undef, undef, undef, undef, undef, undef, undef, undef, undef, undef, undef, undef, undef, undef, undef, undef, undef, undef, undef, undef, undef, undef, undef, undef, undef, undef, undef, undef, undef, undef, undef, undef, undef, undef, undef, undef, undef, undef, undef, undef, undef, undef, undef, undef, undef, undef, undef, undef, undef, undef, undef, undef, undef, undef, undef, undef, undef, undef, undef, undef, undef, undef, undef, undef, undef, undef, undef, undef], []⟩) → J a' w') (hK : ∀ a' w', Met J a' w' → K' a' w') :
    Code.wp Try.prog blk0 (Exit.then K' (bodyPost Try.prog Try.f3 F)) ⟨#[.int .i64 mn, .slice A len cap, .slice A' len' cap', undef, undef, undef, .bool false, .pointer (some ⟨W.heap.size, 0, none⟩), .pointer (some ⟨b, 0, none⟩), .int .i64 0, .pointer (some ⟨bx, 0, none⟩), .int .i64 0, .slice none 0 0, .slice none 0 0, .int .i64 0, undef, undef, undef, undef, undef, undef, undef, undef, undef, undef, undef, undef, c27, c28, c29, c30, c31, c32, c33, c34, c35, c36, c37, c38, c39, c40, c41, c42, c43, c44, c45, c46, c47, c48, c49, c50, undef, undef, undef, undef, undef, undef, undef, undef, undef, undef, undef, undef, undef, undef, undef, undef, undef, undef, undef, undef, undef, undef, undef, undef, undef, undef, undef, undef, undef, undef, undef, undef, undef, undef, undef, undef, undef, undef, undef, undef, undef, undef, undef, undef, undef, undef, undef, undef, undef, undef, undef, undef, undef, undef, undef, undef, undef, undef, undef, undef, undef, undef, undef, undef, undef, undef, undef, undef, undef, undef, undef, undef, undef, undef, undef, undef, undef, undef, undef, undef, undef, undef, undef, undef, undef, undef, undef, undef, undef, undef, undef, undef, undef, undef, undef, undef, undef, undef, undef, undef, undef, undef, undef, undef, undef, undef, undef, undef, undef, undef, undef, undef, undef, undef, undef, undef, undef, undef, undef, undef, undef, undef, undef, undef, undef, undef, undef, undef, undef, undef, undef, undef, undef, undef, undef, undef, undef, undef, undef, undef, undef, undef, undef, undef, undef, undef, undef, undef, undef, undef, undef, undef, undef, undef, undef, undef, undef, undef, undef, undef, undef, undef, undef, undef, undef, undef, undef, undef, undef, undef, undef, undef, undef, undef, undef, undef, undef, undef, undef, undef, undef, undef, undef, undef, undef, undef, undef, undef, undef, undef, undef, undef, undef, undef, undef, undef, undef, undef, undef, undef, undef, undef, undef, undef, undef, undef, undef, undef, undef, undef, undef, undef, undef, undef, undef, undef, undef, undef, undef, undef, undef, undef, undef, undef, undef, undef, undef, undef, undef], []⟩ WW := by
  conv => arg 2; whnf
  let Q' := bodyPost Try.prog Try.f3 F
  change Code.wp _ _ (Exit.then K' Q') _ _
  go_wp2_with fail
  go_loopg [12, 13, 14] 12 (fun g v7 v8 i wr => ∃ (k : Nat) (es : List Ent) (χ : Nat → Nat) (m : HMap), k ≤ len ∧ k ≤ 12 ∧ g = 12 - k ∧ i = .int .i64 k ∧ es.length = k ∧ Hid (∀ e ∈ es, GRel e.o e.r) ∧ Hid (k = 0 → v7 = .slice none 0 0 ∧ v8 = .slice none 0 0) ∧ Hid (St W wr χ m W.heap.size M b bw bb bx gw gb v7 v8 [0, 0, 0, 0, 0, 0] [0, 0, 0, 0, 0, 0] (es.map Ent.bo) es))
  case atStart =>
    obtain ⟨χ, m, h⟩ := HS0.out
    exact ⟨0, [], χ, m, by omega, by omega, rfl, rfl, rfl, Lib.hid (by simp), Lib.hid (fun _ => ⟨rfl, rfl⟩), Lib.hid h⟩
  case round =>
    clear HS0
    obtain ⟨k, es, χ, m, hk, hk12, rfl, rfl, hel, HEQ, HNIL, HI⟩ := hrel
    have HEL := Lib.hid hel
    clear hel
    by_cases hlt : k < len
    · by_cases h12 : k < 12
      · have t12 : decide ((k : Int) < 12) = true := by simp; omega
        obtain ⟨bl, ol, z, k0, v, rfl, hc0, hc1, hc2, hv, _⟩ := ask3 (HLR.out.below HI.out.hp.below) hlt
        have y1 : wr.cell? ⟨W.heap.size, 1, none⟩ = some (.int .i64 M) := (HI.out.hp.blk HI.out.box).cell 1
        have y0 : wr.cell? ⟨W.heap.size, 0, none⟩ = some (.int .i64 1) := (HI.out.hp.blk HI.out.box).cell 0
        have y2 : wr.cell? ⟨W.heap.size, 2, none⟩ = some (.int .i64 0) := (HI.out.hp.blk HI.out.box).cell 2
        obtain ⟨d, hd⟩ : ∃ d : Nat, k0 % 8 = d := ⟨(k0 % 8).toNat, by omega⟩
        have hand : bits .and .i64 k0 7 = (d : Int) := by rw [and7, hd]
        obtain ⟨kk, hkk⟩ : ∃ kk, d % M = kk := ⟨_, rfl⟩
        have hkm : kk < M := by rw [← hkk]; exact Nat.mod_lt d HG.out.m1
        have hm0 : ¬ (M : Int) = 0 := by have := HG.out.m1; omega
        have hmi : (d : Int) % (M : Int) = (kk : Int) := by rw [← hkk]; simp
        have hmt : (d : Int).tmod (M : Int) = (kk : Int) := by rw [← hkk]; rfl
        have HKK := Lib.hid hkm
        have HV := Lib.hid hv
        clear hd hkk hkm hv
        by_cases hz0 : z = 0
        · subst hz0
          have hz0 : True := trivial
          have hz1 : True := trivial
          have HASK := Lib.hid (fun w (h : GSys W w W.heap.size 1 M 0 b bw bb [0, 0, 0, 0, 0, 0]) => g_ask (w0 := W) (0 : Int) kk v h HG.out HKK.out)
          simp only [true_or, if_true] at HASK
          clear hz0 hz1
          have yb0 := kalloc (.cells #[.int .i64 0, .int .i64 1, .int .i64 0, .int .i64 (kk : Int), .int .i64 0, .int .u64 0, .int .u64 0, .int .i64 0] 44) (kalloc (.cells #[.int .i64 0, .int .i64 (kk : Int), .int .u64 (v : Int)] 42) y0)
          have yb1 := kalloc (.cells #[.int .i64 0, .int .i64 1, .int .i64 0, .int .i64 (kk : Int), .int .i64 0, .int .u64 0, .int .u64 0, .int .i64 0] 44) (kalloc (.cells #[.int .i64 0, .int .i64 (kk : Int), .int .u64 (v : Int)] 42) y1)
          have yb2 := kalloc (.cells #[.int .i64 0, .int .i64 1, .int .i64 0, .int .i64 (kk : Int), .int .i64 0, .int .u64 0, .int .u64 0, .int .i64 0] 44) (kalloc (.cells #[.int .i64 0, .int .i64 (kk : Int), .int .u64 (v : Int)] 42) y2)
          have ya1 := kalloc (.cells #[.int .i64 0, .int .i64 k0, .int .u64 (v : Int)] 42) y1
          go_wp2_with fail
          obtain ⟨w7, hw7⟩ : ∃ w7, w7 = (wr.alloc (.cells #[.int .i64 0, .int .i64 (kk : Int), .int .u64 (v : Int)] 42)).alloc (.cells #[.int .i64 0, .int .i64 1, .int .i64 0, .int .i64 (kk : Int), .int .i64 0, .int .u64 0, .int .u64 0, .int .i64 0] 44) := ⟨_, rfl⟩
          rw [← hw7]
          obtain ⟨by', hby⟩ : ∃ n, n = wr.heap.size + 1 := ⟨_, rfl⟩
          have hst7 : St W w7 χ m W.heap.size M b bw bb bx gw gb u12 u13 [0, 0, 0, 0, 0, 0] [0, 0, 0, 0, 0, 0] (es.map Ent.bo) es := by rw [hw7]; exact (HI.out.alloc _).alloc _
          have hyb : Blk w7 by' 44 (ROp.vals ⟨0, kk, 0, 0, 0, 0⟩) := by
            have h := blk_new (wr.alloc (.cells #[.int .i64 0, .int .i64 (kk : Int), .int .u64 (v : Int)] 42)) 44 #[.int .i64 0, .int .i64 1, .int .i64 0, .int .i64 (kk : Int), .int .i64 0, .int .u64 0, .int .u64 0, .int .i64 0] (ROp.vals ⟨0, kk, 0, 0, 0, 0⟩) rfl
            simp only [World.size_alloc] at h
            rw [hw7, hby]; exact h
          have hyc : χ by' = 0 := HI.out.hp.fresh (by omega)
          rw [← hby]
          clear hw7 hby hc0 hc1 hc2 y0 y1 y2 yb0 yb1 yb2 ya1 hand
          have H7 := Lib.hid hst7
          have HY := Lib.hid (And.intro hyb hyc)
          clear hst7 hyb hyc
          refine (HASK.out w7 H7.out.sys).mono ?_; rintro e w8 ⟨bo, rfl, ho, _, hap, hge, hb⟩
          have H8 := Lib.hid (H7.out.keep hb)
          have hy8 := HY.out.1.chg (chg_of_below (fun _ => False) hb) (fun h => h)
          have HO := Lib.hid (And.intro ho (And.intro hap (And.intro hge hy8)))
          clear ho hap hge hb hy8 HASK
          obtain ⟨v9, w9, hrun, hown, hg, hs⟩ := H8.out.run7 (by rw [List.length_map, HEL.out]; omega) bo
          obtain ⟨χ9, m9, hst9, hχ9, g9, cap9, hv9⟩ := (H8.out.alloc (.cells #[.pointer (some ⟨bo, 0, none⟩)] 45)).app7 (p := bo) hown hg hs
          rw [List.length_map, HEL.out] at hv9
          subst hv9
          have f0 := H7.out.hp.fresh HO.out.2.2.1
          have ho9 := blk_grown (HO.out.1.alloc (.cells #[.pointer (some ⟨bo, 0, none⟩)] 45)) hg (H8.out.ne7 f0)
          have hy9 := blk_grown (HO.out.2.2.2.alloc (.cells #[.pointer (some ⟨bo, 0, none⟩)] 45)) hg (H8.out.ne7 HY.out.2)
          have hl9 : bo < (w8.alloc (.cells #[.pointer (some ⟨bo, 0, none⟩)] 45)).heap.size := by have := HO.out.1.lt; simp; omega
          obtain ⟨e, he⟩ : ∃ e : Ent, e = ⟨bo, ⟨0, kk, 0, 0, 0, 0⟩, ⟨0, kk, 0, 0, 0, 0⟩⟩ := ⟨_, rfl⟩
          obtain ⟨v11, w11, hrun2, hown2, hg2, hs2⟩ := hst9.run8 (by rw [HEL.out]; omega) e
          have hok : GIn M e.o := by rw [he]; exact gin_new M 0 kk 0 (by decide) HKK.out (by decide)
          have hgx : GX M e.o := by rw [he]; exact ⟨fun h => by rcases h with ⟨_, h⟩ | ⟨_, h⟩; exact absurd (show (0 : Nat) = 1 from h) (by decide); exact absurd (show (0 : Nat) = 2 from h) (by decide), fun h => absurd (show (0 : Nat) = 1 from h.2) (by decide)⟩
          obtain ⟨χ11, m11, hst11, g11, cap11, hv11⟩ := (hst9.alloc (.cells e.vals.toArray 44)).app8 (e := e) hown2 hg2 hs2 (by rw [he]; exact ho9.alloc _) (by rw [he]; exact (hχ9 _ hl9).trans f0) (by rw [he]; exact HO.out.2.1.ge) hok hgx
          have hrun2' : (Builtin.append_ #[39, 39] 39 #[u13, .slice (some ⟨w9.heap.size, 0, none⟩) 1 1]).run Try.prog (w9.alloc (.cells #[.int .i64 0, .int .i64 1, .int .i64 0, .int .i64 (kk : Int), .int .i64 0, .int .u64 0, .int .u64 0, .int .i64 0] 44)) = .ok v11 w11 := by rw [he] at hrun2; exact hrun2
          rw [HEL.out] at hv11
          subst hv11
          have H11 := Lib.hid (show ∃ es' χ m, es'.length = k + 1 ∧ Hid (∀ e ∈ es', GRel e.o e.r) ∧ Hid (St W w11 χ m W.heap.size M b bw bb bx gw gb (.slice (some ⟨g9, 0, none⟩) (k + 1) cap9) (.slice (some ⟨g11, 0, none⟩) (k + 1) cap11) [0, 0, 0, 0, 0, 0] [0, 0, 0, 0, 0, 0] (es'.map Ent.bo) es') from
            ⟨es ++ [e], χ11, m11, by rw [List.length_append, HEL.out]; rfl, Lib.hid (by
              intro f hf
              rcases List.mem_append.1 hf with h | h
              · exact HEQ.out f h
              · simp at h; rw [h, he]; exact ⟨rfl, rfl, rfl, rfl, fun _ => ⟨rfl, rfl, fun h => by rcases h with ⟨_, h⟩ | ⟨_, h⟩; exact absurd (show (0 : Nat) = 1 from h) (by decide); exact absurd (show (0 : Nat) = 2 from h) (by decide)⟩⟩), Lib.hid (by
              rw [List.map_append]
              have : List.map Ent.bo [e] = [bo] := by rw [he]; rfl
              rw [this]; exact hst11)⟩)
          have q0 : w9.cell? ⟨by', 0, none⟩ = some (.int .i64 0) := hy9.cell 0
          have q1 : w9.cell? ⟨by', 1, none⟩ = some (.int .i64 1) := hy9.cell 1
          have q2 : w9.cell? ⟨by', 2, none⟩ = some (.int .i64 0) := hy9.cell 2
          have q3 : w9.cell? ⟨by', 3, none⟩ = some (.int .i64 (kk : Int)) := hy9.cell 3
          have q4 : w9.cell? ⟨by', 4, none⟩ = some (.int .i64 0) := hy9.cell 4
          have q5 : w9.cell? ⟨by', 5, none⟩ = some (.int .u64 0) := hy9.cell 5
          have q6 : w9.cell? ⟨by', 6, none⟩ = some (.int .u64 0) := hy9.cell 6
          have q7 : w9.cell? ⟨by', 7, none⟩ = some (.int .i64 0) := hy9.cell 7
          clear hst9 hχ9 f0 ho9 hy9 hl9 hrun2 hown hg hs hown2 hg2 hs2 hok hgx hst11 he
          go_wp2_with (at_builtin; first | refine wpList_plain rfl (fun K hK => oper_append (.tmp 93) (.tmp 97) 38 rfl rfl rfl hrun (hK _ _ ?_)) | refine wpList_plain rfl (fun K hK => oper_append (.tmp 99) (.tmp 101) 39 rfl rfl rfl hrun2' (hK _ _ ?_)))
          obtain ⟨es', χ', m', hel', HEQ', HST'⟩ := H11.out
          clear H11 HY q0 q1 q2 q3 q4 q5 q6 q7
          go_roundg (12 - (k + 1))
          case measure => omega
          case rel => exact ⟨k + 1, es', χ', m', by omega, by omega, by omega, by go_num, hel', HEQ', Lib.hid (fun h => by omega), HST'⟩
        · by_cases hz1 : z = 1
          · subst hz1
            have hz1 : True := trivial
            have HASK := Lib.hid (fun w (h : GSys W w W.heap.size 1 M 0 b bw bb [0, 0, 0, 0, 0, 0]) => g_ask (w0 := W) (1 : Int) kk v h HG.out HKK.out)
            have e10 : ((1 : Int) = 0) = False := by simp
            simp only [e10, or_true, if_true, if_false] at HASK
            clear e10
            clear hz0 hz1
            have yb0 := kalloc (.cells #[.int .i64 1, .int .i64 1, .int .i64 0, .int .i64 (kk : Int), .int .i64 0, .int .u64 0, .int .u64 0, .int .i64 0] 44) (kalloc (.cells #[.int .i64 1, .int .i64 (kk : Int), .int .u64 (v : Int)] 42) y0)
            have yb1 := kalloc (.cells #[.int .i64 1, .int .i64 1, .int .i64 0, .int .i64 (kk : Int), .int .i64 0, .int .u64 0, .int .u64 0, .int .i64 0] 44) (kalloc (.cells #[.int .i64 1, .int .i64 (kk : Int), .int .u64 (v : Int)] 42) y1)
            have yb2 := kalloc (.cells #[.int .i64 1, .int .i64 1, .int .i64 0, .int .i64 (kk : Int), .int .i64 0, .int .u64 0, .int .u64 0, .int .i64 0] 44) (kalloc (.cells #[.int .i64 1, .int .i64 (kk : Int), .int .u64 (v : Int)] 42) y2)
            have ya1 := kalloc (.cells #[.int .i64 1, .int .i64 k0, .int .u64 (v : Int)] 42) y1
            go_wp2_with fail
            obtain ⟨w7, hw7⟩ : ∃ w7, w7 = (wr.alloc (.cells #[.int .i64 1, .int .i64 (kk : Int), .int .u64 (v : Int)] 42)).alloc (.cells #[.int .i64 1, .int .i64 1, .int .i64 0, .int .i64 (kk : Int), .int .i64 0, .int .u64 0, .int .u64 0, .int .i64 0] 44) := ⟨_, rfl⟩
            rw [← hw7]
            obtain ⟨by', hby⟩ : ∃ n, n = wr.heap.size + 1 := ⟨_, rfl⟩
            have hst7 : St W w7 χ m W.heap.size M b bw bb bx gw gb u12 u13 [0, 0, 0, 0, 0, 0] [0, 0, 0, 0, 0, 0] (es.map Ent.bo) es := by rw [hw7]; exact (HI.out.alloc _).alloc _
            have hyb : Blk w7 by' 44 (ROp.vals ⟨1, kk, 0, 0, 0, 0⟩) := by
              have h := blk_new (wr.alloc (.cells #[.int .i64 1, .int .i64 (kk : Int), .int .u64 (v : Int)] 42)) 44 #[.int .i64 1, .int .i64 1, .int .i64 0, .int .i64 (kk : Int), .int .i64 0, .int .u64 0, .int .u64 0, .int .i64 0] (ROp.vals ⟨1, kk, 0, 0, 0, 0⟩) rfl
              simp only [World.size_alloc] at h
              rw [hw7, hby]; exact h
            have hyc : χ by' = 0 := HI.out.hp.fresh (by omega)
            rw [← hby]
            clear hw7 hby hc0 hc1 hc2 y0 y1 y2 yb0 yb1 yb2 ya1 hand
            have H7 := Lib.hid hst7
            have HY := Lib.hid (And.intro hyb hyc)
            clear hst7 hyb hyc
            refine (HASK.out w7 H7.out.sys).mono ?_; rintro e w8 ⟨bo, rfl, ho, _, hap, hge, hb⟩
            have H8 := Lib.hid (H7.out.keep hb)
            have hy8 := HY.out.1.chg (chg_of_below (fun _ => False) hb) (fun h => h)
            have HO := Lib.hid (And.intro ho (And.intro hap (And.intro hge hy8)))
            clear ho hap hge hb hy8 HASK
            obtain ⟨v9, w9, hrun, hown, hg, hs⟩ := H8.out.run7 (by rw [List.length_map, HEL.out]; omega) bo
            obtain ⟨χ9, m9, hst9, hχ9, g9, cap9, hv9⟩ := (H8.out.alloc (.cells #[.pointer (some ⟨bo, 0, none⟩)] 45)).app7 (p := bo) hown hg hs
            rw [List.length_map, HEL.out] at hv9
            subst hv9
            have f0 := H7.out.hp.fresh HO.out.2.2.1
            have ho9 := blk_grown (HO.out.1.alloc (.cells #[.pointer (some ⟨bo, 0, none⟩)] 45)) hg (H8.out.ne7 f0)
            have hy9 := blk_grown (HO.out.2.2.2.alloc (.cells #[.pointer (some ⟨bo, 0, none⟩)] 45)) hg (H8.out.ne7 HY.out.2)
            have hl9 : bo < (w8.alloc (.cells #[.pointer (some ⟨bo, 0, none⟩)] 45)).heap.size := by have := HO.out.1.lt; simp; omega
            obtain ⟨e, he⟩ : ∃ e : Ent, e = ⟨bo, ⟨1, kk, 0, 0, 0, 0⟩, ⟨1, kk, 0, 0, 0, 0⟩⟩ := ⟨_, rfl⟩
            obtain ⟨v11, w11, hrun2, hown2, hg2, hs2⟩ := hst9.run8 (by rw [HEL.out]; omega) e
            have hok : GIn M e.o := by rw [he]; exact gin_new M 1 kk 0 (by decide) HKK.out (by decide)
            have hgx : GX M e.o := by rw [he]; exact ⟨fun h => by rcases h with ⟨_, h⟩ | ⟨_, h⟩; exact absurd (show (0 : Nat) = 1 from h) (by decide); exact absurd (show (0 : Nat) = 2 from h) (by decide), fun h => absurd (show (0 : Nat) = 1 from h.2) (by decide)⟩
            obtain ⟨χ11, m11, hst11, g11, cap11, hv11⟩ := (hst9.alloc (.cells e.vals.toArray 44)).app8 (e := e) hown2 hg2 hs2 (by rw [he]; exact ho9.alloc _) (by rw [he]; exact (hχ9 _ hl9).trans f0) (by rw [he]; exact HO.out.2.1.ge) hok hgx
            have hrun2' : (Builtin.append_ #[39, 39] 39 #[u13, .slice (some ⟨w9.heap.size, 0, none⟩) 1 1]).run Try.prog (w9.alloc (.cells #[.int .i64 1, .int .i64 1, .int .i64 0, .int .i64 (kk : Int), .int .i64 0, .int .u64 0, .int .u64 0, .int .i64 0] 44)) = .ok v11 w11 := by rw [he] at hrun2; exact hrun2
            rw [HEL.out] at hv11
            subst hv11
            have H11 := Lib.hid (show ∃ es' χ m, es'.length = k + 1 ∧ Hid (∀ e ∈ es', GRel e.o e.r) ∧ Hid (St W w11 χ m W.heap.size M b bw bb bx gw gb (.slice (some ⟨g9, 0, none⟩) (k + 1) cap9) (.slice (some ⟨g11, 0, none⟩) (k + 1) cap11) [0, 0, 0, 0, 0, 0] [0, 0, 0, 0, 0, 0] (es'.map Ent.bo) es') from
              ⟨es ++ [e], χ11, m11, by rw [List.length_append, HEL.out]; rfl, Lib.hid (by
                intro f hf
                rcases List.mem_append.1 hf with h | h
                · exact HEQ.out f h
                · simp at h; rw [h, he]; exact ⟨rfl, rfl, rfl, rfl, fun _ => ⟨rfl, rfl, fun h => by rcases h with ⟨_, h⟩ | ⟨_, h⟩; exact absurd (show (0 : Nat) = 1 from h) (by decide); exact absurd (show (0 : Nat) = 2 from h) (by decide)⟩⟩), Lib.hid (by
                rw [List.map_append]
                have : List.map Ent.bo [e] = [bo] := by rw [he]; rfl
                rw [this]; exact hst11)⟩)
            have q0 : w9.cell? ⟨by', 0, none⟩ = some (.int .i64 1) := hy9.cell 0
            have q1 : w9.cell? ⟨by', 1, none⟩ = some (.int .i64 1) := hy9.cell 1
            have q2 : w9.cell? ⟨by', 2, none⟩ = some (.int .i64 0) := hy9.cell 2
            have q3 : w9.cell? ⟨by', 3, none⟩ = some (.int .i64 (kk : Int)) := hy9.cell 3
            have q4 : w9.cell? ⟨by', 4, none⟩ = some (.int .i64 0) := hy9.cell 4
            have q5 : w9.cell? ⟨by', 5, none⟩ = some (.int .u64 0) := hy9.cell 5
            have q6 : w9.cell? ⟨by', 6, none⟩ = some (.int .u64 0) := hy9.cell 6
            have q7 : w9.cell? ⟨by', 7, none⟩ = some (.int .i64 0) := hy9.cell 7
            clear hst9 hχ9 f0 ho9 hy9 hl9 hrun2 hown hg hs hown2 hg2 hs2 hok hgx hst11 he
            go_wp2_with (at_builtin; first | refine wpList_plain rfl (fun K hK => oper_append (.tmp 93) (.tmp 97) 38 rfl rfl rfl hrun (hK _ _ ?_)) | refine wpList_plain rfl (fun K hK => oper_append (.tmp 99) (.tmp 101) 39 rfl rfl rfl hrun2' (hK _ _ ?_)))
            obtain ⟨es', χ', m', hel', HEQ', HST'⟩ := H11.out
            clear H11 HY q0 q1 q2 q3 q4 q5 q6 q7
            go_roundg (12 - (k + 1))
            case measure => omega
            case rel => exact ⟨k + 1, es', χ', m', by omega, by omega, by omega, by go_num, hel', HEQ', Lib.hid (fun h => by omega), HST'⟩
          · have tz0 : (z != 0) = true := by rw [bne_iff_ne]; exact hz0
            have tz1 : (z != 1) = true := by rw [bne_iff_ne]; exact hz1
            have HASK := Lib.hid (fun w (h : GSys W w W.heap.size 1 M 0 b bw bb [0, 0, 0, 0, 0, 0]) => g_ask (w0 := W) (2 : Int) 0 v h HG.out HG.out.m1)
            have e20 : ((2 : Int) = 0) = False := by simp
            have e21 : ((2 : Int) = 1) = False := by simp
            simp only [e20, e21, or_self, if_false] at HASK
            clear e20 e21
            clear hz0 hz1
            have yb0 := kalloc (.cells #[.int .i64 2, .int .i64 1, .int .i64 0, .int .i64 0, .int .i64 0, .int .u64 0, .int .u64 (v : Int), .int .i64 0] 44) (kalloc (.cells #[.int .i64 2, .int .i64 0, .int .u64 (v : Int)] 42) y0)
            have yb1 := kalloc (.cells #[.int .i64 2, .int .i64 1, .int .i64 0, .int .i64 0, .int .i64 0, .int .u64 0, .int .u64 (v : Int), .int .i64 0] 44) (kalloc (.cells #[.int .i64 2, .int .i64 0, .int .u64 (v : Int)] 42) y1)
            have yb2 := kalloc (.cells #[.int .i64 2, .int .i64 1, .int .i64 0, .int .i64 0, .int .i64 0, .int .u64 0, .int .u64 (v : Int), .int .i64 0] 44) (kalloc (.cells #[.int .i64 2, .int .i64 0, .int .u64 (v : Int)] 42) y2)
            have ya1 := kalloc (.cells #[.int .i64 z, .int .i64 k0, .int .u64 (v : Int)] 42) y1
            go_wp2_with fail
            obtain ⟨w7, hw7⟩ : ∃ w7, w7 = (wr.alloc (.cells #[.int .i64 2, .int .i64 0, .int .u64 (v : Int)] 42)).alloc (.cells #[.int .i64 2, .int .i64 1, .int .i64 0, .int .i64 0, .int .i64 0, .int .u64 0, .int .u64 (v : Int), .int .i64 0] 44) := ⟨_, rfl⟩
            rw [← hw7]
            obtain ⟨by', hby⟩ : ∃ n, n = wr.heap.size + 1 := ⟨_, rfl⟩
            have hst7 : St W w7 χ m W.heap.size M b bw bb bx gw gb u12 u13 [0, 0, 0, 0, 0, 0] [0, 0, 0, 0, 0, 0] (es.map Ent.bo) es := by rw [hw7]; exact (HI.out.alloc _).alloc _
            have hyb : Blk w7 by' 44 (ROp.vals ⟨2, 0, 0, 0, v, 0⟩) := by
              have h := blk_new (wr.alloc (.cells #[.int .i64 2, .int .i64 0, .int .u64 (v : Int)] 42)) 44 #[.int .i64 2, .int .i64 1, .int .i64 0, .int .i64 0, .int .i64 0, .int .u64 0, .int .u64 (v : Int), .int .i64 0] (ROp.vals ⟨2, 0, 0, 0, v, 0⟩) rfl
              simp only [World.size_alloc] at h
              rw [hw7, hby]; exact h
            have hyc : χ by' = 0 := HI.out.hp.fresh (by omega)
            rw [← hby]
            clear hw7 hby hc0 hc1 hc2 y0 y1 y2 yb0 yb1 yb2 ya1 hand
            have H7 := Lib.hid hst7
            have HY := Lib.hid (And.intro hyb hyc)
            clear hst7 hyb hyc
            refine (HASK.out w7 H7.out.sys).mono ?_; rintro e w8 ⟨bo, rfl, ho, _, hap, hge, hb⟩
            have H8 := Lib.hid (H7.out.keep hb)
            have hy8 := HY.out.1.chg (chg_of_below (fun _ => False) hb) (fun h => h)
            have HO := Lib.hid (And.intro ho (And.intro hap (And.intro hge hy8)))
            clear ho hap hge hb hy8 HASK
            obtain ⟨v9, w9, hrun, hown, hg, hs⟩ := H8.out.run7 (by rw [List.length_map, HEL.out]; omega) bo
            obtain ⟨χ9, m9, hst9, hχ9, g9, cap9, hv9⟩ := (H8.out.alloc (.cells #[.pointer (some ⟨bo, 0, none⟩)] 45)).app7 (p := bo) hown hg hs
            rw [List.length_map, HEL.out] at hv9
            subst hv9
            have f0 := H7.out.hp.fresh HO.out.2.2.1
            have ho9 := blk_grown (HO.out.1.alloc (.cells #[.pointer (some ⟨bo, 0, none⟩)] 45)) hg (H8.out.ne7 f0)
            have hy9 := blk_grown (HO.out.2.2.2.alloc (.cells #[.pointer (some ⟨bo, 0, none⟩)] 45)) hg (H8.out.ne7 HY.out.2)
            have hl9 : bo < (w8.alloc (.cells #[.pointer (some ⟨bo, 0, none⟩)] 45)).heap.size := by have := HO.out.1.lt; simp; omega
            obtain ⟨e, he⟩ : ∃ e : Ent, e = ⟨bo, ⟨2, 0, 0, 0, v, 0⟩, ⟨2, 0, 0, 0, v, 0⟩⟩ := ⟨_, rfl⟩
            obtain ⟨v11, w11, hrun2, hown2, hg2, hs2⟩ := hst9.run8 (by rw [HEL.out]; omega) e
            have hok : GIn M e.o := by rw [he]; exact gin_new M 2 0 v (by decide) HG.out.m1 HV.out
            have hgx : GX M e.o := by rw [he]; exact ⟨fun h => by rcases h with ⟨_, h⟩ | ⟨_, h⟩; exact absurd (show (0 : Nat) = 1 from h) (by decide); exact absurd (show (0 : Nat) = 2 from h) (by decide), fun h => absurd (show (0 : Nat) = 1 from h.2) (by decide)⟩
            obtain ⟨χ11, m11, hst11, g11, cap11, hv11⟩ := (hst9.alloc (.cells e.vals.toArray 44)).app8 (e := e) hown2 hg2 hs2 (by rw [he]; exact ho9.alloc _) (by rw [he]; exact (hχ9 _ hl9).trans f0) (by rw [he]; exact HO.out.2.1.ge) hok hgx
            have hrun2' : (Builtin.append_ #[39, 39] 39 #[u13, .slice (some ⟨w9.heap.size, 0, none⟩) 1 1]).run Try.prog (w9.alloc (.cells #[.int .i64 2, .int .i64 1, .int .i64 0, .int .i64 0, .int .i64 0, .int .u64 0, .int .u64 (v : Int), .int .i64 0] 44)) = .ok v11 w11 := by rw [he] at hrun2; exact hrun2
            rw [HEL.out] at hv11
            subst hv11
            have H11 := Lib.hid (show ∃ es' χ m, es'.length = k + 1 ∧ Hid (∀ e ∈ es', GRel e.o e.r) ∧ Hid (St W w11 χ m W.heap.size M b bw bb bx gw gb (.slice (some ⟨g9, 0, none⟩) (k + 1) cap9) (.slice (some ⟨g11, 0, none⟩) (k + 1) cap11) [0, 0, 0, 0, 0, 0] [0, 0, 0, 0, 0, 0] (es'.map Ent.bo) es') from
              ⟨es ++ [e], χ11, m11, by rw [List.length_append, HEL.out]; rfl, Lib.hid (by
                intro f hf
                rcases List.mem_append.1 hf with h | h
                · exact HEQ.out f h
                · simp at h; rw [h, he]; exact ⟨rfl, rfl, rfl, rfl, fun _ => ⟨rfl, rfl, fun h => by rcases h with ⟨_, h⟩ | ⟨_, h⟩; exact absurd (show (0 : Nat) = 1 from h) (by decide); exact absurd (show (0 : Nat) = 2 from h) (by decide)⟩⟩), Lib.hid (by
                rw [List.map_append]
                have : List.map Ent.bo [e] = [bo] := by rw [he]; rfl
                rw [this]; exact hst11)⟩)
            have q0 : w9.cell? ⟨by', 0, none⟩ = some (.int .i64 2) := hy9.cell 0
            have q1 : w9.cell? ⟨by', 1, none⟩ = some (.int .i64 1) := hy9.cell 1
            have q2 : w9.cell? ⟨by', 2, none⟩ = some (.int .i64 0) := hy9.cell 2
            have q3 : w9.cell? ⟨by', 3, none⟩ = some (.int .i64 0) := hy9.cell 3
            have q4 : w9.cell? ⟨by', 4, none⟩ = some (.int .i64 0) := hy9.cell 4
            have q5 : w9.cell? ⟨by', 5, none⟩ = some (.int .u64 0) := hy9.cell 5
            have q6 : w9.cell? ⟨by', 6, none⟩ = some (.int .u64 (v : Int)) := hy9.cell 6
            have q7 : w9.cell? ⟨by', 7, none⟩ = some (.int .i64 0) := hy9.cell 7
            clear hst9 hχ9 f0 ho9 hy9 hl9 hrun2 hown hg hs hown2 hg2 hs2 hok hgx hst11 he
            go_wp2_with (at_builtin; first | refine wpList_plain rfl (fun K hK => oper_append (.tmp 93) (.tmp 97) 38 rfl rfl rfl hrun (hK _ _ ?_)) | refine wpList_plain rfl (fun K hK => oper_append (.tmp 99) (.tmp 101) 39 rfl rfl rfl hrun2' (hK _ _ ?_)))
            obtain ⟨es', χ', m', hel', HEQ', HST'⟩ := H11.out
            clear H11 HY q0 q1 q2 q3 q4 q5 q6 q7
            go_roundg (12 - (k + 1))
            case measure => omega
            case rel => exact ⟨k + 1, es', χ', m', by omega, by omega, by omega, by go_num, hel', HEQ', Lib.hid (fun h => by omega), HST'⟩
      · have t12 : decide ((k : Int) < 12) = false := by simp; omega
        clear h12
        go_wp2
        go_meet
        case rel => exact ⟨es, χ, m, by rw [HEL.out]; exact hk12, HEQ, Lib.hid (fun h => HNIL.out (by rw [← HEL.out]; exact h)), HI⟩
    · have tk : decide (k < len) = false := by simp; omega
      clear hlt
      go_wp2
      go_meet
      case rel => exact ⟨es, χ, m, by rw [HEL.out]; exact hk12, HEQ, Lib.hid (fun h => HNIL.out (by rw [← HEL.out]; exact h)), HI⟩
end Go.Proofs.Ytjmooohhndjmiaa
