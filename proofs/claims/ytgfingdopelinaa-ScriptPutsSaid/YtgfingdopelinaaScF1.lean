/- contract of reader.entry: entries that are no picks. (Printed by genent.py.) -/
import Derived.Test.YtgfingdopelinaaScF
namespace Go.Proofs.Ytgfingdopelinaa
set_option linter.unusedSimpArgs false
set_option linter.unusedVariables false
open Go.RowKit Go.Deep

theorem set_keep {w : World} {b c o : Nat} {v u : Value} (hne : b ≠ c) (h : w.cell? ⟨b, 0, none⟩ = some v) : (w.setCell ⟨c, o, none⟩ u).cell? ⟨b, 0, none⟩ = some v := ((Chg.refl (fun j => j = c) w).setCell _ _ (fun _ => rfl)).cell h hne
theorem ES.set {w W : World} {rb s0 s2 : Nat} {cs : List Value} {r : List Nat × Bool} (h : ES w W rb s0 s2 cs r) (hcs : ∀ v ∈ cs, ∀ x, v ≠ .int .u8 x) (i : Nat) (u : Value) : ES w (W.setCell ⟨s2, i, none⟩ u) rb s0 s2 (cs.set i u) r :=
  h.store hcs ((Chg.refl (fun j => j = s2) W).setCell _ _ (fun _ => rfl)) (h.ent.set i u)
theorem ES.ne {w W : World} {rb s0 s2 : Nat} {cs : List Value} {r : List Nat × Bool} (h : ES w W rb s0 s2 cs r) : s0 ≠ s2 ∧ s0 ≠ rb ∧ s2 ≠ rb := by have := h.lt; have := h.lt2; omega
theorem rsmall_lit (rb m : Nat) (z : Int) (hz : z = (m : Int)) (r : List Nat × Bool) (w : World) (h : RdAt w rb r) (hm : m < 9223372036854775808) :
    Calls Try.prog 28 #[.pointer (some ⟨rb, 0, none⟩), .int .i64 z] w fun e w' => e = .returned (.int .i64 ((rsmall m r).1 : Nat)) ∧ RdAt w' rb (rsmall m r).2 ∧ Chg (fun j => j = rb) w w' := by
  subst hz
  exact rsmall_calls rb m r w h hm
set_option maxRecDepth 100000 in
set_option maxHeartbeats 4000000 in
theorem rentry_1 (rb : Nat) (r : List Nat × Bool) (w : World) (h : RdAt w rb r) (hp : ¬ (rsmall 127 r).1 % 2 = 1) (hkd : (rsmall 4 (rsmall 127 r).2).1 = 1) :
    Calls Try.prog 30 #[.pointer (some ⟨rb, 0, none⟩)] w fun e w' => e = .returned (rentry r).1.val ∧ RdAt w' rb (rentry r).2 ∧ Chg (fun j => j = rb) w w' := by
  have hre : rentry r = ({ enZero with thread := ((rsmall 127 r).1 / 2 : Nat), kind := ((rsmall 4 (rsmall 127 r).2).1 : Nat), topic := ((rsmall 3 (rsmall 4 (rsmall 127 r).2).2).1 : Nat) }, (rsmall 3 (rsmall 4 (rsmall 127 r).2).2).2) := by unfold rentry; rw [if_neg hp]; dsimp only; rw [if_neg (by omega), if_pos hkd]
  have HR := Lib.hid h
  obtain ⟨k, hk⟩ : ∃ k, (rsmall 127 r).1 = k := ⟨_, rfl⟩
  obtain ⟨r1, hr1⟩ : ∃ k, (rsmall 127 r).2 = k := ⟨_, rfl⟩
  have HC := fun W => Lib.hid (fun h => rsmall_calls rb 127 r W h (by decide))
  rw [hk, hr1] at HC
  rw [hr1] at hkd
  rw [hk] at hp
  rw [hk, hr1] at hre
  have tp : ((k : Int) % 2 == 1) = false := by rw [beq_eq_false_iff_ne]; omega
  have hk127 : k ≤ 127 := by rw [← hk]; exact rsmall_le 127 r
  obtain ⟨kd, hd⟩ : ∃ k, (rsmall 4 r1).1 = k := ⟨_, rfl⟩
  obtain ⟨r2, hr2⟩ : ∃ k, (rsmall 4 r1).2 = k := ⟨_, rfl⟩
  obtain ⟨tp', htp⟩ : ∃ k, (rsmall 3 r2).1 = k := ⟨_, rfl⟩
  obtain ⟨r3, hr3⟩ : ∃ k, (rsmall 3 r2).2 = k := ⟨_, rfl⟩
  have HC4 := fun W => Lib.hid (fun h => rsmall_lit rb 4 4 (by rfl) r1 W h (by decide))
  have HC3 := fun W => Lib.hid (fun h => rsmall_lit rb 3 3 (by rfl) r2 W h (by decide))
  rw [hd, hr2] at HC4
  rw [htp, hr3] at HC3
  rw [hd] at hkd
  rw [hd, hr2, htp, hr3] at hre
  have t_0 : ((kd : Int) == 0) = false := by rw [beq_eq_false_iff_ne]; omega
  have t_2 : ((kd : Int) == 2) = false := by rw [beq_eq_false_iff_ne]; omega
  have t_3 : ((kd : Int) == 3) = false := by rw [beq_eq_false_iff_ne]; omega
  have t_4 : ((kd : Int) == 4) = false := by rw [beq_eq_false_iff_ne]; omega

  rw [hre]
  have HK := Lib.hid (And.intro hp hkd)
  clear hk hr1 hp h hre hd hr2 htp hr3 hkd
  have hmf : ∀ (fn : Fn) (first cap : Array Value) (w : World), (Instr.makeFunc fn first cap).run Try.prog w = .ok (.func fn first cap) w := fun _ _ _ _ => rfl
  go_enter Try.func30, Try.ntmps30
  go_wp2_with fail
  have HRD : Hid (RdAt ((w.alloc (.cells #[.pointer (some ⟨rb, 0, none⟩)] 65)).alloc (.cells enZero.vals.toArray 34)) rb r) := Lib.hid (HR.out.below (bnew (bnew (Below.refl _ _) _) _))
  have HC0 : Hid (Chg (fun j => j = rb) w ((w.alloc (.cells #[.pointer (some ⟨rb, 0, none⟩)] 65)).alloc (.cells enZero.vals.toArray 34))) := Lib.hid (((Chg.refl _ w).alloc _).alloc _)
  have HBX : Hid (Blk ((w.alloc (.cells #[.pointer (some ⟨rb, 0, none⟩)] 65)).alloc (.cells enZero.vals.toArray 34)) w.heap.size 65 [.pointer (some ⟨rb, 0, none⟩)]) := Lib.hid ((Blk.new w _ [.pointer (some ⟨rb, 0, none⟩)]).alloc _)
  have HRS : Hid (Blk ((w.alloc (.cells #[.pointer (some ⟨rb, 0, none⟩)] 65)).alloc (.cells enZero.vals.toArray 34)) (w.heap.size + 1) 34 enZero.vals) := Lib.hid (by have h := Blk.new (w.alloc (.cells #[.pointer (some ⟨rb, 0, none⟩)] 65)) 34 enZero.vals; simpa using h)
  refine ((HC _).out HRD.out).mono ?_; rintro e w1 ⟨rfl, hr2, hc2⟩
  have HES : Hid (ES w (w1.alloc (.cells #[.int .i64 ((k : Int) / 2), .bool false, .int .i64 0, .int .i64 0, .int .i64 0, .int .u64 0, .int .i64 0, .string noText, .int .u64 0] 34)) rb w.heap.size w1.heap.size [.int .i64 ((k : Int) / 2), .bool false, .int .i64 0, .int .i64 0, .int .i64 0, .int .u64 0, .int .i64 0, .string noText, .int .u64 0] r1) := Lib.hid (by
    have hl := HR.out.blk_lt
    have hz := hc2.size
    simp at hz
    exact ⟨(HBX.out.chg hc2 (by omega)).alloc _, (HRS.out.chg hc2 (by omega)).alloc _, Blk.new w1 _ [_, _, _, _, _, _, _, _, _], hr2.below (bnew (Below.refl _ _) _), (HC0.out.trans hc2 (fun _ _ h => h)).alloc _, hl, by omega, rfl⟩)
  clear hr2 hc2
  go_upto_region 7 with fail
  generalize w1.alloc (.cells #[.int .i64 ((k : Int) / 2), .bool false, .int .i64 0, .int .i64 0, .int .i64 0, .int .u64 0, .int .i64 0, .string noText, .int .u64 0] 34) = w2 at HES ⊢
  generalize hs2 : w1.heap.size = s2 at HES ⊢
  generalize hs0 : w.heap.size = s0 at HES HC0 HBX HRS ⊢
  clear hs2 hs0 HC0 HBX HRS HRD HC
  have HED := Lib.hid HES.out.drew
  have HEB := Lib.hid (HES.out.drew.box.cell 0)
  have HER := Lib.hid HES.out.drew.rd
  have HNE := Lib.hid HES.out.ne
  clear HES
  go_region_held3 (fun W => W.cell? ⟨s0, 0, none⟩ = some (.pointer (some ⟨rb, 0, none⟩))) (first | exact HEB.out | exact Chg.cell (by assumption) (by assumption) HNE.out.2.1 | exact set_keep HNE.out.1 (by assumption) | assumption) (first | (go_at_call 28; (with_reducible refine ((HC4 _).out HER.out).mono ?_); rintro e w3 ⟨rfl, hr3, hc3⟩) | (go_at_call 28; (with_reducible refine ((HC3 _).out (by assumption)).mono ?_); rintro e w4 ⟨rfl, hr4, hc4⟩; have hes4 := (HED.out.call (by assumption) (by assumption)).call hc4 hr4; have hec4 := en_cells hes4.ent; have hc42 := hec4.1.2.2.1; have hc43 := hec4.1.2.2.2.1; have hf42 := hec4.2.2.2.1; have hf43 := hec4.2.2.2.2.1; clear hec4))
  rename_i hh
  have HE5 := Lib.hid ((hes4.set (by simp) 2 (.int .i64 (kd : Nat))).set (by simp) 3 (.int .i64 (tp' : Nat)))
  simp only [List.set_cons_zero, List.set_cons_succ] at HE5
  clear hh hr4 hc4 hes4 hc42 hc43 hf42 hf43 hr3 hc3 HED HEB HER HNE
  generalize (w4.setCell ⟨s2, 2, none⟩ (.int .i64 (kd : Nat))).setCell ⟨s2, 3, none⟩ (.int .i64 (tp' : Nat)) = w5 at HE5 ⊢
  have he5 := en_cells HE5.out.ent
  have x2 := he5.1.2.2.1
  clear he5
  go_upto_region 17 with fail
  have HE6 := HE5
  clear HE5 x2
  have he5 := en_cells HE6.out.ent
  have he6 := en_cells HE6.out.res
  obtain ⟨⟨x0, x1, x2, x3, x4, x5, x6, x7, x8⟩, _⟩ := he5
  obtain ⟨⟨y0, y1, y2, y3, y4, y5, y6, y7, y8⟩, z0, z1, z2, z3, z4, z5, z6, z7, z8⟩ := he6
  go_wp2_with fail
  clear y0 y1 y2 y3 y4 y5 y6 y7 y8 z0 z1 z2 z3 z4 z5 z6 z7 z8 x0 x1 x2 x3 x4 x5 x6 x7 x8
  obtain ⟨W', hW', hf, hbl⟩ := en_finish HE6.out (.int .i64 ((k : Int) / 2)) (.bool false) (.int .i64 (kd : Nat)) (.int .i64 (tp' : Nat)) (.int .i64 0) (.int .u64 0) (.int .i64 0) (.string noText) (.int .u64 0)
  have HF := Lib.hid hf
  obtain ⟨⟨y0, y1, y2, y3, y4, y5, y6, y7, y8⟩, _⟩ := en_cells hbl
  rw [← hW']
  clear hW' hf hbl HE6
  refine bodyPost_ret (v := .agg #[.int .i64 ((k : Int) / 2), .bool false, .int .i64 (kd : Nat), .int .i64 (tp' : Nat), .int .i64 0, .int .u64 0, .int .i64 0, .string noText, .int .u64 0]) (by simp [results, Try.results30, go_sem, y0, y1, y2, y3, y4, y5, y6, y7, y8]) rfl ⟨by simp [En.val, enZero], HF.out.1, HF.out.2⟩

set_option maxRecDepth 100000 in
set_option maxHeartbeats 4000000 in
theorem rentry_0 (rb : Nat) (r : List Nat × Bool) (w : World) (h : RdAt w rb r) (hp : ¬ (rsmall 127 r).1 % 2 = 1) (hkd : (rsmall 4 (rsmall 127 r).2).1 = 0) :
    Calls Try.prog 30 #[.pointer (some ⟨rb, 0, none⟩)] w fun e w' => e = .returned (rentry r).1.val ∧ RdAt w' rb (rentry r).2 ∧ Chg (fun j => j = rb) w w' := by
  have hre : rentry r = ({ enZero with thread := ((rsmall 127 r).1 / 2 : Nat), kind := ((rsmall 4 (rsmall 127 r).2).1 : Nat), topic := ((rsmall 3 (rsmall 4 (rsmall 127 r).2).2).1 : Nat), mode := ((rsmall 2 (rsmall 3 (rsmall 4 (rsmall 127 r).2).2).2).1 : Nat), text := strOf (rtext (rsmall 2 (rsmall 3 (rsmall 4 (rsmall 127 r).2).2).2).2).1 }, (rtext (rsmall 2 (rsmall 3 (rsmall 4 (rsmall 127 r).2).2).2).2).2) := by unfold rentry; rw [if_neg hp]; dsimp only; rw [if_pos hkd]
  have HR := Lib.hid h
  obtain ⟨k, hk⟩ : ∃ k, (rsmall 127 r).1 = k := ⟨_, rfl⟩
  obtain ⟨r1, hr1⟩ : ∃ k, (rsmall 127 r).2 = k := ⟨_, rfl⟩
  have HC := fun W => Lib.hid (fun h => rsmall_calls rb 127 r W h (by decide))
  rw [hk, hr1] at HC
  rw [hr1] at hkd
  rw [hk] at hp
  rw [hk, hr1] at hre
  have tp : ((k : Int) % 2 == 1) = false := by rw [beq_eq_false_iff_ne]; omega
  have hk127 : k ≤ 127 := by rw [← hk]; exact rsmall_le 127 r
  obtain ⟨kd, hd⟩ : ∃ k, (rsmall 4 r1).1 = k := ⟨_, rfl⟩
  obtain ⟨r2, hr2⟩ : ∃ k, (rsmall 4 r1).2 = k := ⟨_, rfl⟩
  obtain ⟨tp', htp⟩ : ∃ k, (rsmall 3 r2).1 = k := ⟨_, rfl⟩
  obtain ⟨r3, hr3⟩ : ∃ k, (rsmall 3 r2).2 = k := ⟨_, rfl⟩
  have HC4 := fun W => Lib.hid (fun h => rsmall_lit rb 4 4 (by rfl) r1 W h (by decide))
  have HC3 := fun W => Lib.hid (fun h => rsmall_lit rb 3 3 (by rfl) r2 W h (by decide))
  rw [hd, hr2] at HC4
  rw [htp, hr3] at HC3
  rw [hd] at hkd
  rw [hd, hr2, htp, hr3] at hre
  obtain ⟨md, hmd⟩ : ∃ k, (rsmall 2 r3).1 = k := ⟨_, rfl⟩
  obtain ⟨r4, hr4⟩ : ∃ k, (rsmall 2 r3).2 = k := ⟨_, rfl⟩
  obtain ⟨tx, htx⟩ : ∃ k, (rtext r4).1 = k := ⟨_, rfl⟩
  obtain ⟨r5, hr5⟩ : ∃ k, (rtext r4).2 = k := ⟨_, rfl⟩
  have HC2 := fun W => Lib.hid (fun h => rsmall_lit rb 2 2 (by rfl) r3 W h (by decide))
  have HCT := fun W => Lib.hid (fun h => rtext_calls rb r4 W h)
  rw [hmd, hr4] at HC2
  rw [htx, hr5] at HCT
  rw [hmd, hr4, htx, hr5] at hre
  clear hmd hr4 htx hr5
  have t_0 : ((kd : Int) == 0) = true := by rw [beq_iff_eq]; omega

  rw [hre]
  have HK := Lib.hid (And.intro hp hkd)
  clear hk hr1 hp h hre hd hr2 htp hr3 hkd
  have hmf : ∀ (fn : Fn) (first cap : Array Value) (w : World), (Instr.makeFunc fn first cap).run Try.prog w = .ok (.func fn first cap) w := fun _ _ _ _ => rfl
  go_enter Try.func30, Try.ntmps30
  go_wp2_with fail
  have HRD : Hid (RdAt ((w.alloc (.cells #[.pointer (some ⟨rb, 0, none⟩)] 65)).alloc (.cells enZero.vals.toArray 34)) rb r) := Lib.hid (HR.out.below (bnew (bnew (Below.refl _ _) _) _))
  have HC0 : Hid (Chg (fun j => j = rb) w ((w.alloc (.cells #[.pointer (some ⟨rb, 0, none⟩)] 65)).alloc (.cells enZero.vals.toArray 34))) := Lib.hid (((Chg.refl _ w).alloc _).alloc _)
  have HBX : Hid (Blk ((w.alloc (.cells #[.pointer (some ⟨rb, 0, none⟩)] 65)).alloc (.cells enZero.vals.toArray 34)) w.heap.size 65 [.pointer (some ⟨rb, 0, none⟩)]) := Lib.hid ((Blk.new w _ [.pointer (some ⟨rb, 0, none⟩)]).alloc _)
  have HRS : Hid (Blk ((w.alloc (.cells #[.pointer (some ⟨rb, 0, none⟩)] 65)).alloc (.cells enZero.vals.toArray 34)) (w.heap.size + 1) 34 enZero.vals) := Lib.hid (by have h := Blk.new (w.alloc (.cells #[.pointer (some ⟨rb, 0, none⟩)] 65)) 34 enZero.vals; simpa using h)
  refine ((HC _).out HRD.out).mono ?_; rintro e w1 ⟨rfl, hr2, hc2⟩
  have HES : Hid (ES w (w1.alloc (.cells #[.int .i64 ((k : Int) / 2), .bool false, .int .i64 0, .int .i64 0, .int .i64 0, .int .u64 0, .int .i64 0, .string noText, .int .u64 0] 34)) rb w.heap.size w1.heap.size [.int .i64 ((k : Int) / 2), .bool false, .int .i64 0, .int .i64 0, .int .i64 0, .int .u64 0, .int .i64 0, .string noText, .int .u64 0] r1) := Lib.hid (by
    have hl := HR.out.blk_lt
    have hz := hc2.size
    simp at hz
    exact ⟨(HBX.out.chg hc2 (by omega)).alloc _, (HRS.out.chg hc2 (by omega)).alloc _, Blk.new w1 _ [_, _, _, _, _, _, _, _, _], hr2.below (bnew (Below.refl _ _) _), (HC0.out.trans hc2 (fun _ _ h => h)).alloc _, hl, by omega, rfl⟩)
  clear hr2 hc2
  go_upto_region 7 with fail
  generalize w1.alloc (.cells #[.int .i64 ((k : Int) / 2), .bool false, .int .i64 0, .int .i64 0, .int .i64 0, .int .u64 0, .int .i64 0, .string noText, .int .u64 0] 34) = w2 at HES ⊢
  generalize hs2 : w1.heap.size = s2 at HES ⊢
  generalize hs0 : w.heap.size = s0 at HES HC0 HBX HRS ⊢
  clear hs2 hs0 HC0 HBX HRS HRD HC
  have HED := Lib.hid HES.out.drew
  have HEB := Lib.hid (HES.out.drew.box.cell 0)
  have HER := Lib.hid HES.out.drew.rd
  have HNE := Lib.hid HES.out.ne
  clear HES
  go_region_held3 (fun W => W.cell? ⟨s0, 0, none⟩ = some (.pointer (some ⟨rb, 0, none⟩))) (first | exact HEB.out | exact Chg.cell (by assumption) (by assumption) HNE.out.2.1 | exact set_keep HNE.out.1 (by assumption) | assumption) (first | (go_at_call 28; (with_reducible refine ((HC4 _).out HER.out).mono ?_); rintro e w3 ⟨rfl, hr3, hc3⟩) | (go_at_call 28; (with_reducible refine ((HC3 _).out (by assumption)).mono ?_); rintro e w4 ⟨rfl, hr4, hc4⟩; have hes4 := (HED.out.call (by assumption) (by assumption)).call hc4 hr4; have hec4 := en_cells hes4.ent; have hc42 := hec4.1.2.2.1; have hc43 := hec4.1.2.2.2.1; have hf42 := hec4.2.2.2.1; have hf43 := hec4.2.2.2.2.1; clear hec4))
  rename_i hh
  have HE5 := Lib.hid ((hes4.set (by simp) 2 (.int .i64 (kd : Nat))).set (by simp) 3 (.int .i64 (tp' : Nat)))
  simp only [List.set_cons_zero, List.set_cons_succ] at HE5
  clear hh hr4 hc4 hes4 hc42 hc43 hf42 hf43 hr3 hc3 HED HEB HER HNE
  generalize (w4.setCell ⟨s2, 2, none⟩ (.int .i64 (kd : Nat))).setCell ⟨s2, 3, none⟩ (.int .i64 (tp' : Nat)) = w5 at HE5 ⊢
  have he5 := en_cells HE5.out.ent
  have x2 := he5.1.2.2.1
  clear he5
  go_upto_region 10 with fail
  have HED := Lib.hid HE5.out.drew
  have HEB := Lib.hid (HE5.out.drew.box.cell 0)
  have HER := Lib.hid HE5.out.drew.rd
  have HNE := Lib.hid HE5.out.ne
  clear HE5 x2
  go_region_held3 (fun W => W.cell? ⟨s0, 0, none⟩ = some (.pointer (some ⟨rb, 0, none⟩))) (first | exact HEB.out | exact Chg.cell (by assumption) (by assumption) HNE.out.2.1 | exact set_keep HNE.out.1 (by assumption) | assumption) (first | (go_at_call 28; (with_reducible refine ((HC2 _).out HER.out).mono ?_); rintro e w3 ⟨rfl, hr3, hc3⟩) | (go_at_call 38; (with_reducible refine ((HCT _).out (by assumption)).mono ?_); rintro e w4 ⟨rfl, hr4, hc4⟩; have hes4 := (HED.out.call (by assumption) (by assumption)).call hc4 hr4; have hec4 := en_cells hes4.ent; have hc46 := hec4.1.2.2.2.2.2.2.1; have hc47 := hec4.1.2.2.2.2.2.2.2.1; have hf46 := hec4.2.2.2.2.2.2.2.1; have hf47 := hec4.2.2.2.2.2.2.2.2.1; clear hec4))
  rename_i hh
  have HE6 := Lib.hid ((hes4.set (by simp) 6 (.int .i64 (md : Nat))).set (by simp) 7 (.string (strOf tx)))
  simp only [List.set_cons_zero, List.set_cons_succ] at HE6
  clear hh hr4 hc4 hes4 hc46 hc47 hf46 hf47 hr3 hc3 HED HEB HER HNE
  generalize (w4.setCell ⟨s2, 6, none⟩ (.int .i64 (md : Nat))).setCell ⟨s2, 7, none⟩ (.string (strOf tx)) = w6 at HE6 ⊢
  go_upto_region 17 with fail
  have he5 := en_cells HE6.out.ent
  have he6 := en_cells HE6.out.res
  obtain ⟨⟨x0, x1, x2, x3, x4, x5, x6, x7, x8⟩, _⟩ := he5
  obtain ⟨⟨y0, y1, y2, y3, y4, y5, y6, y7, y8⟩, z0, z1, z2, z3, z4, z5, z6, z7, z8⟩ := he6
  go_wp2_with fail
  clear y0 y1 y2 y3 y4 y5 y6 y7 y8 z0 z1 z2 z3 z4 z5 z6 z7 z8 x0 x1 x2 x3 x4 x5 x6 x7 x8
  obtain ⟨W', hW', hf, hbl⟩ := en_finish HE6.out (.int .i64 ((k : Int) / 2)) (.bool false) (.int .i64 (kd : Nat)) (.int .i64 (tp' : Nat)) (.int .i64 0) (.int .u64 0) (.int .i64 (md : Nat)) (.string (strOf tx)) (.int .u64 0)
  have HF := Lib.hid hf
  obtain ⟨⟨y0, y1, y2, y3, y4, y5, y6, y7, y8⟩, _⟩ := en_cells hbl
  rw [← hW']
  clear hW' hf hbl HE6
  refine bodyPost_ret (v := .agg #[.int .i64 ((k : Int) / 2), .bool false, .int .i64 (kd : Nat), .int .i64 (tp' : Nat), .int .i64 0, .int .u64 0, .int .i64 (md : Nat), .string (strOf tx), .int .u64 0]) (by simp [results, Try.results30, go_sem, y0, y1, y2, y3, y4, y5, y6, y7, y8]) rfl ⟨by simp [En.val, enZero], HF.out.1, HF.out.2⟩

set_option maxRecDepth 100000 in
set_option maxHeartbeats 4000000 in
theorem rentry_2 (rb : Nat) (r : List Nat × Bool) (w : World) (h : RdAt w rb r) (hp : ¬ (rsmall 127 r).1 % 2 = 1) (hkd : (rsmall 4 (rsmall 127 r).2).1 = 2) :
    Calls Try.prog 30 #[.pointer (some ⟨rb, 0, none⟩)] w fun e w' => e = .returned (rentry r).1.val ∧ RdAt w' rb (rentry r).2 ∧ Chg (fun j => j = rb) w w' := by
  have hre : rentry r = ({ enZero with thread := ((rsmall 127 r).1 / 2 : Nat), kind := ((rsmall 4 (rsmall 127 r).2).1 : Nat), topic := ((rsmall 3 (rsmall 4 (rsmall 127 r).2).2).1 : Nat), gk := ((rhandle (rsmall 3 (rsmall 4 (rsmall 127 r).2).2).2).1.1 : Nat), gen := (rhandle (rsmall 3 (rsmall 4 (rsmall 127 r).2).2).2).1.2 }, (rhandle (rsmall 3 (rsmall 4 (rsmall 127 r).2).2).2).2) := by unfold rentry; rw [if_neg hp]; dsimp only; rw [if_neg (by omega), if_neg (by omega), if_neg (by omega)]
  have HR := Lib.hid h
  obtain ⟨k, hk⟩ : ∃ k, (rsmall 127 r).1 = k := ⟨_, rfl⟩
  obtain ⟨r1, hr1⟩ : ∃ k, (rsmall 127 r).2 = k := ⟨_, rfl⟩
  have HC := fun W => Lib.hid (fun h => rsmall_calls rb 127 r W h (by decide))
  rw [hk, hr1] at HC
  rw [hr1] at hkd
  rw [hk] at hp
  rw [hk, hr1] at hre
  have tp : ((k : Int) % 2 == 1) = false := by rw [beq_eq_false_iff_ne]; omega
  have hk127 : k ≤ 127 := by rw [← hk]; exact rsmall_le 127 r
  obtain ⟨kd, hd⟩ : ∃ k, (rsmall 4 r1).1 = k := ⟨_, rfl⟩
  obtain ⟨r2, hr2⟩ : ∃ k, (rsmall 4 r1).2 = k := ⟨_, rfl⟩
  obtain ⟨tp', htp⟩ : ∃ k, (rsmall 3 r2).1 = k := ⟨_, rfl⟩
  obtain ⟨r3, hr3⟩ : ∃ k, (rsmall 3 r2).2 = k := ⟨_, rfl⟩
  have HC4 := fun W => Lib.hid (fun h => rsmall_lit rb 4 4 (by rfl) r1 W h (by decide))
  have HC3 := fun W => Lib.hid (fun h => rsmall_lit rb 3 3 (by rfl) r2 W h (by decide))
  rw [hd, hr2] at HC4
  rw [htp, hr3] at HC3
  rw [hd] at hkd
  rw [hd, hr2, htp, hr3] at hre
  obtain ⟨gk, hgk⟩ : ∃ k, (rhandle r3).1.1 = k := ⟨_, rfl⟩
  obtain ⟨gn, hgn⟩ : ∃ k, (rhandle r3).1.2 = k := ⟨_, rfl⟩
  obtain ⟨r4, hr4⟩ : ∃ k, (rhandle r3).2 = k := ⟨_, rfl⟩
  have HCH := fun W bx => Lib.hid (fun h1 h2 h3 => rhandle_calls rb bx r3 W h1 h2 h3)
  rw [hgk, hgn, hr4] at HCH
  rw [hgk, hgn, hr4] at hre
  clear hgk hgn hr4
  have t_0 : ((kd : Int) == 0) = false := by rw [beq_eq_false_iff_ne]; omega
  have t_2 : ((kd : Int) == 2) = true := by rw [beq_iff_eq]; omega
  have t_3 : ((kd : Int) == 3) = false := by rw [beq_eq_false_iff_ne]; omega

  rw [hre]
  have HK := Lib.hid (And.intro hp hkd)
  clear hk hr1 hp h hre hd hr2 htp hr3 hkd
  have hmf : ∀ (fn : Fn) (first cap : Array Value) (w : World), (Instr.makeFunc fn first cap).run Try.prog w = .ok (.func fn first cap) w := fun _ _ _ _ => rfl
  go_enter Try.func30, Try.ntmps30
  go_wp2_with fail
  have HRD : Hid (RdAt ((w.alloc (.cells #[.pointer (some ⟨rb, 0, none⟩)] 65)).alloc (.cells enZero.vals.toArray 34)) rb r) := Lib.hid (HR.out.below (bnew (bnew (Below.refl _ _) _) _))
  have HC0 : Hid (Chg (fun j => j = rb) w ((w.alloc (.cells #[.pointer (some ⟨rb, 0, none⟩)] 65)).alloc (.cells enZero.vals.toArray 34))) := Lib.hid (((Chg.refl _ w).alloc _).alloc _)
  have HBX : Hid (Blk ((w.alloc (.cells #[.pointer (some ⟨rb, 0, none⟩)] 65)).alloc (.cells enZero.vals.toArray 34)) w.heap.size 65 [.pointer (some ⟨rb, 0, none⟩)]) := Lib.hid ((Blk.new w _ [.pointer (some ⟨rb, 0, none⟩)]).alloc _)
  have HRS : Hid (Blk ((w.alloc (.cells #[.pointer (some ⟨rb, 0, none⟩)] 65)).alloc (.cells enZero.vals.toArray 34)) (w.heap.size + 1) 34 enZero.vals) := Lib.hid (by have h := Blk.new (w.alloc (.cells #[.pointer (some ⟨rb, 0, none⟩)] 65)) 34 enZero.vals; simpa using h)
  refine ((HC _).out HRD.out).mono ?_; rintro e w1 ⟨rfl, hr2, hc2⟩
  have HES : Hid (ES w (w1.alloc (.cells #[.int .i64 ((k : Int) / 2), .bool false, .int .i64 0, .int .i64 0, .int .i64 0, .int .u64 0, .int .i64 0, .string noText, .int .u64 0] 34)) rb w.heap.size w1.heap.size [.int .i64 ((k : Int) / 2), .bool false, .int .i64 0, .int .i64 0, .int .i64 0, .int .u64 0, .int .i64 0, .string noText, .int .u64 0] r1) := Lib.hid (by
    have hl := HR.out.blk_lt
    have hz := hc2.size
    simp at hz
    exact ⟨(HBX.out.chg hc2 (by omega)).alloc _, (HRS.out.chg hc2 (by omega)).alloc _, Blk.new w1 _ [_, _, _, _, _, _, _, _, _], hr2.below (bnew (Below.refl _ _) _), (HC0.out.trans hc2 (fun _ _ h => h)).alloc _, hl, by omega, rfl⟩)
  clear hr2 hc2
  go_upto_region 7 with fail
  generalize w1.alloc (.cells #[.int .i64 ((k : Int) / 2), .bool false, .int .i64 0, .int .i64 0, .int .i64 0, .int .u64 0, .int .i64 0, .string noText, .int .u64 0] 34) = w2 at HES ⊢
  generalize hs2 : w1.heap.size = s2 at HES ⊢
  generalize hs0 : w.heap.size = s0 at HES HC0 HBX HRS ⊢
  clear hs2 hs0 HC0 HBX HRS HRD HC
  have HED := Lib.hid HES.out.drew
  have HEB := Lib.hid (HES.out.drew.box.cell 0)
  have HER := Lib.hid HES.out.drew.rd
  have HNE := Lib.hid HES.out.ne
  clear HES
  go_region_held3 (fun W => W.cell? ⟨s0, 0, none⟩ = some (.pointer (some ⟨rb, 0, none⟩))) (first | exact HEB.out | exact Chg.cell (by assumption) (by assumption) HNE.out.2.1 | exact set_keep HNE.out.1 (by assumption) | assumption) (first | (go_at_call 28; (with_reducible refine ((HC4 _).out HER.out).mono ?_); rintro e w3 ⟨rfl, hr3, hc3⟩) | (go_at_call 28; (with_reducible refine ((HC3 _).out (by assumption)).mono ?_); rintro e w4 ⟨rfl, hr4, hc4⟩; have hes4 := (HED.out.call (by assumption) (by assumption)).call hc4 hr4; have hec4 := en_cells hes4.ent; have hc42 := hec4.1.2.2.1; have hc43 := hec4.1.2.2.2.1; have hf42 := hec4.2.2.2.1; have hf43 := hec4.2.2.2.2.1; clear hec4))
  rename_i hh
  have HE5 := Lib.hid ((hes4.set (by simp) 2 (.int .i64 (kd : Nat))).set (by simp) 3 (.int .i64 (tp' : Nat)))
  simp only [List.set_cons_zero, List.set_cons_succ] at HE5
  clear hh hr4 hc4 hes4 hc42 hc43 hf42 hf43 hr3 hc3 HED HEB HER HNE
  generalize (w4.setCell ⟨s2, 2, none⟩ (.int .i64 (kd : Nat))).setCell ⟨s2, 3, none⟩ (.int .i64 (tp' : Nat)) = w5 at HE5 ⊢
  have he5 := en_cells HE5.out.ent
  have x2 := he5.1.2.2.1
  clear he5
  go_upto_region 13 with fail
  have HNE := Lib.hid HE5.out.ne
  have HEQ := HE5
  clear HE5 x2
  go_wp2_with fail
  refine ((HCH _ _).out HEQ.out.rd HEQ.out.box HNE.out.2.1).mono ?_; rintro e w4 ⟨rfl, hr4, hc4⟩; have hes4 := HEQ.out.call hc4 hr4; have hec4 := en_cells hes4.ent; have hc44 := hec4.1.2.2.2.2.1; have hc45 := hec4.1.2.2.2.2.2.1; have hf44 := hec4.2.2.2.2.2.1; have hf45 := hec4.2.2.2.2.2.2.1; clear hec4; have HES4 := Lib.hid hes4; clear hes4 hr4 hc4
  go_upto_region 17 with fail
  have HE6 := Lib.hid ((HES4.out.set (by simp) 4 (.int .i64 (gk : Nat))).set (by simp) 5 (.int .u64 (gn : Nat)))
  simp only [List.set_cons_zero, List.set_cons_succ] at HE6
  clear hc44 hc45 hf44 hf45 HES4 HEQ HNE
  generalize (w4.setCell ⟨s2, 4, none⟩ (.int .i64 (gk : Nat))).setCell ⟨s2, 5, none⟩ (.int .u64 (gn : Nat)) = w6 at HE6 ⊢
  have he5 := en_cells HE6.out.ent
  have he6 := en_cells HE6.out.res
  obtain ⟨⟨x0, x1, x2, x3, x4, x5, x6, x7, x8⟩, _⟩ := he5
  obtain ⟨⟨y0, y1, y2, y3, y4, y5, y6, y7, y8⟩, z0, z1, z2, z3, z4, z5, z6, z7, z8⟩ := he6
  go_wp2_with fail
  clear y0 y1 y2 y3 y4 y5 y6 y7 y8 z0 z1 z2 z3 z4 z5 z6 z7 z8 x0 x1 x2 x3 x4 x5 x6 x7 x8
  obtain ⟨W', hW', hf, hbl⟩ := en_finish HE6.out (.int .i64 ((k : Int) / 2)) (.bool false) (.int .i64 (kd : Nat)) (.int .i64 (tp' : Nat)) (.int .i64 (gk : Nat)) (.int .u64 (gn : Nat)) (.int .i64 0) (.string noText) (.int .u64 0)
  have HF := Lib.hid hf
  obtain ⟨⟨y0, y1, y2, y3, y4, y5, y6, y7, y8⟩, _⟩ := en_cells hbl
  rw [← hW']
  clear hW' hf hbl HE6
  refine bodyPost_ret (v := .agg #[.int .i64 ((k : Int) / 2), .bool false, .int .i64 (kd : Nat), .int .i64 (tp' : Nat), .int .i64 (gk : Nat), .int .u64 (gn : Nat), .int .i64 0, .string noText, .int .u64 0]) (by simp [results, Try.results30, go_sem, y0, y1, y2, y3, y4, y5, y6, y7, y8]) rfl ⟨by simp [En.val, enZero], HF.out.1, HF.out.2⟩

set_option maxRecDepth 100000 in
set_option maxHeartbeats 4000000 in
theorem rentry_3 (rb : Nat) (r : List Nat × Bool) (w : World) (h : RdAt w rb r) (hp : ¬ (rsmall 127 r).1 % 2 = 1) (hkd : (rsmall 4 (rsmall 127 r).2).1 = 3) :
    Calls Try.prog 30 #[.pointer (some ⟨rb, 0, none⟩)] w fun e w' => e = .returned (rentry r).1.val ∧ RdAt w' rb (rentry r).2 ∧ Chg (fun j => j = rb) w w' := by
  have hre : rentry r = ({ enZero with thread := ((rsmall 127 r).1 / 2 : Nat), kind := ((rsmall 4 (rsmall 127 r).2).1 : Nat), topic := ((rsmall 3 (rsmall 4 (rsmall 127 r).2).2).1 : Nat), gk := ((rhandle (rsmall 3 (rsmall 4 (rsmall 127 r).2).2).2).1.1 : Nat), gen := (rhandle (rsmall 3 (rsmall 4 (rsmall 127 r).2).2).2).1.2 }, (rhandle (rsmall 3 (rsmall 4 (rsmall 127 r).2).2).2).2) := by unfold rentry; rw [if_neg hp]; dsimp only; rw [if_neg (by omega), if_neg (by omega), if_neg (by omega)]
  have HR := Lib.hid h
  obtain ⟨k, hk⟩ : ∃ k, (rsmall 127 r).1 = k := ⟨_, rfl⟩
  obtain ⟨r1, hr1⟩ : ∃ k, (rsmall 127 r).2 = k := ⟨_, rfl⟩
  have HC := fun W => Lib.hid (fun h => rsmall_calls rb 127 r W h (by decide))
  rw [hk, hr1] at HC
  rw [hr1] at hkd
  rw [hk] at hp
  rw [hk, hr1] at hre
  have tp : ((k : Int) % 2 == 1) = false := by rw [beq_eq_false_iff_ne]; omega
  have hk127 : k ≤ 127 := by rw [← hk]; exact rsmall_le 127 r
  obtain ⟨kd, hd⟩ : ∃ k, (rsmall 4 r1).1 = k := ⟨_, rfl⟩
  obtain ⟨r2, hr2⟩ : ∃ k, (rsmall 4 r1).2 = k := ⟨_, rfl⟩
  obtain ⟨tp', htp⟩ : ∃ k, (rsmall 3 r2).1 = k := ⟨_, rfl⟩
  obtain ⟨r3, hr3⟩ : ∃ k, (rsmall 3 r2).2 = k := ⟨_, rfl⟩
  have HC4 := fun W => Lib.hid (fun h => rsmall_lit rb 4 4 (by rfl) r1 W h (by decide))
  have HC3 := fun W => Lib.hid (fun h => rsmall_lit rb 3 3 (by rfl) r2 W h (by decide))
  rw [hd, hr2] at HC4
  rw [htp, hr3] at HC3
  rw [hd] at hkd
  rw [hd, hr2, htp, hr3] at hre
  obtain ⟨gk, hgk⟩ : ∃ k, (rhandle r3).1.1 = k := ⟨_, rfl⟩
  obtain ⟨gn, hgn⟩ : ∃ k, (rhandle r3).1.2 = k := ⟨_, rfl⟩
  obtain ⟨r4, hr4⟩ : ∃ k, (rhandle r3).2 = k := ⟨_, rfl⟩
  have HCH := fun W bx => Lib.hid (fun h1 h2 h3 => rhandle_calls rb bx r3 W h1 h2 h3)
  rw [hgk, hgn, hr4] at HCH
  rw [hgk, hgn, hr4] at hre
  clear hgk hgn hr4
  have t_0 : ((kd : Int) == 0) = false := by rw [beq_eq_false_iff_ne]; omega
  have t_2 : ((kd : Int) == 2) = false := by rw [beq_eq_false_iff_ne]; omega
  have t_3 : ((kd : Int) == 3) = true := by rw [beq_iff_eq]; omega

  rw [hre]
  have HK := Lib.hid (And.intro hp hkd)
  clear hk hr1 hp h hre hd hr2 htp hr3 hkd
  have hmf : ∀ (fn : Fn) (first cap : Array Value) (w : World), (Instr.makeFunc fn first cap).run Try.prog w = .ok (.func fn first cap) w := fun _ _ _ _ => rfl
  go_enter Try.func30, Try.ntmps30
  go_wp2_with fail
  have HRD : Hid (RdAt ((w.alloc (.cells #[.pointer (some ⟨rb, 0, none⟩)] 65)).alloc (.cells enZero.vals.toArray 34)) rb r) := Lib.hid (HR.out.below (bnew (bnew (Below.refl _ _) _) _))
  have HC0 : Hid (Chg (fun j => j = rb) w ((w.alloc (.cells #[.pointer (some ⟨rb, 0, none⟩)] 65)).alloc (.cells enZero.vals.toArray 34))) := Lib.hid (((Chg.refl _ w).alloc _).alloc _)
  have HBX : Hid (Blk ((w.alloc (.cells #[.pointer (some ⟨rb, 0, none⟩)] 65)).alloc (.cells enZero.vals.toArray 34)) w.heap.size 65 [.pointer (some ⟨rb, 0, none⟩)]) := Lib.hid ((Blk.new w _ [.pointer (some ⟨rb, 0, none⟩)]).alloc _)
  have HRS : Hid (Blk ((w.alloc (.cells #[.pointer (some ⟨rb, 0, none⟩)] 65)).alloc (.cells enZero.vals.toArray 34)) (w.heap.size + 1) 34 enZero.vals) := Lib.hid (by have h := Blk.new (w.alloc (.cells #[.pointer (some ⟨rb, 0, none⟩)] 65)) 34 enZero.vals; simpa using h)
  refine ((HC _).out HRD.out).mono ?_; rintro e w1 ⟨rfl, hr2, hc2⟩
  have HES : Hid (ES w (w1.alloc (.cells #[.int .i64 ((k : Int) / 2), .bool false, .int .i64 0, .int .i64 0, .int .i64 0, .int .u64 0, .int .i64 0, .string noText, .int .u64 0] 34)) rb w.heap.size w1.heap.size [.int .i64 ((k : Int) / 2), .bool false, .int .i64 0, .int .i64 0, .int .i64 0, .int .u64 0, .int .i64 0, .string noText, .int .u64 0] r1) := Lib.hid (by
    have hl := HR.out.blk_lt
    have hz := hc2.size
    simp at hz
    exact ⟨(HBX.out.chg hc2 (by omega)).alloc _, (HRS.out.chg hc2 (by omega)).alloc _, Blk.new w1 _ [_, _, _, _, _, _, _, _, _], hr2.below (bnew (Below.refl _ _) _), (HC0.out.trans hc2 (fun _ _ h => h)).alloc _, hl, by omega, rfl⟩)
  clear hr2 hc2
  go_upto_region 7 with fail
  generalize w1.alloc (.cells #[.int .i64 ((k : Int) / 2), .bool false, .int .i64 0, .int .i64 0, .int .i64 0, .int .u64 0, .int .i64 0, .string noText, .int .u64 0] 34) = w2 at HES ⊢
  generalize hs2 : w1.heap.size = s2 at HES ⊢
  generalize hs0 : w.heap.size = s0 at HES HC0 HBX HRS ⊢
  clear hs2 hs0 HC0 HBX HRS HRD HC
  have HED := Lib.hid HES.out.drew
  have HEB := Lib.hid (HES.out.drew.box.cell 0)
  have HER := Lib.hid HES.out.drew.rd
  have HNE := Lib.hid HES.out.ne
  clear HES
  go_region_held3 (fun W => W.cell? ⟨s0, 0, none⟩ = some (.pointer (some ⟨rb, 0, none⟩))) (first | exact HEB.out | exact Chg.cell (by assumption) (by assumption) HNE.out.2.1 | exact set_keep HNE.out.1 (by assumption) | assumption) (first | (go_at_call 28; (with_reducible refine ((HC4 _).out HER.out).mono ?_); rintro e w3 ⟨rfl, hr3, hc3⟩) | (go_at_call 28; (with_reducible refine ((HC3 _).out (by assumption)).mono ?_); rintro e w4 ⟨rfl, hr4, hc4⟩; have hes4 := (HED.out.call (by assumption) (by assumption)).call hc4 hr4; have hec4 := en_cells hes4.ent; have hc42 := hec4.1.2.2.1; have hc43 := hec4.1.2.2.2.1; have hf42 := hec4.2.2.2.1; have hf43 := hec4.2.2.2.2.1; clear hec4))
  rename_i hh
  have HE5 := Lib.hid ((hes4.set (by simp) 2 (.int .i64 (kd : Nat))).set (by simp) 3 (.int .i64 (tp' : Nat)))
  simp only [List.set_cons_zero, List.set_cons_succ] at HE5
  clear hh hr4 hc4 hes4 hc42 hc43 hf42 hf43 hr3 hc3 HED HEB HER HNE
  generalize (w4.setCell ⟨s2, 2, none⟩ (.int .i64 (kd : Nat))).setCell ⟨s2, 3, none⟩ (.int .i64 (tp' : Nat)) = w5 at HE5 ⊢
  have he5 := en_cells HE5.out.ent
  have x2 := he5.1.2.2.1
  clear he5
  go_upto_region 13 with fail
  have HNE := Lib.hid HE5.out.ne
  have HEQ := HE5
  clear HE5 x2
  go_wp2_with fail
  refine ((HCH _ _).out HEQ.out.rd HEQ.out.box HNE.out.2.1).mono ?_; rintro e w4 ⟨rfl, hr4, hc4⟩; have hes4 := HEQ.out.call hc4 hr4; have hec4 := en_cells hes4.ent; have hc44 := hec4.1.2.2.2.2.1; have hc45 := hec4.1.2.2.2.2.2.1; have hf44 := hec4.2.2.2.2.2.1; have hf45 := hec4.2.2.2.2.2.2.1; clear hec4; have HES4 := Lib.hid hes4; clear hes4 hr4 hc4
  go_upto_region 17 with fail
  have HE6 := Lib.hid ((HES4.out.set (by simp) 4 (.int .i64 (gk : Nat))).set (by simp) 5 (.int .u64 (gn : Nat)))
  simp only [List.set_cons_zero, List.set_cons_succ] at HE6
  clear hc44 hc45 hf44 hf45 HES4 HEQ HNE
  generalize (w4.setCell ⟨s2, 4, none⟩ (.int .i64 (gk : Nat))).setCell ⟨s2, 5, none⟩ (.int .u64 (gn : Nat)) = w6 at HE6 ⊢
  have he5 := en_cells HE6.out.ent
  have he6 := en_cells HE6.out.res
  obtain ⟨⟨x0, x1, x2, x3, x4, x5, x6, x7, x8⟩, _⟩ := he5
  obtain ⟨⟨y0, y1, y2, y3, y4, y5, y6, y7, y8⟩, z0, z1, z2, z3, z4, z5, z6, z7, z8⟩ := he6
  go_wp2_with fail
  clear y0 y1 y2 y3 y4 y5 y6 y7 y8 z0 z1 z2 z3 z4 z5 z6 z7 z8 x0 x1 x2 x3 x4 x5 x6 x7 x8
  obtain ⟨W', hW', hf, hbl⟩ := en_finish HE6.out (.int .i64 ((k : Int) / 2)) (.bool false) (.int .i64 (kd : Nat)) (.int .i64 (tp' : Nat)) (.int .i64 (gk : Nat)) (.int .u64 (gn : Nat)) (.int .i64 0) (.string noText) (.int .u64 0)
  have HF := Lib.hid hf
  obtain ⟨⟨y0, y1, y2, y3, y4, y5, y6, y7, y8⟩, _⟩ := en_cells hbl
  rw [← hW']
  clear hW' hf hbl HE6
  refine bodyPost_ret (v := .agg #[.int .i64 ((k : Int) / 2), .bool false, .int .i64 (kd : Nat), .int .i64 (tp' : Nat), .int .i64 (gk : Nat), .int .u64 (gn : Nat), .int .i64 0, .string noText, .int .u64 0]) (by simp [results, Try.results30, go_sem, y0, y1, y2, y3, y4, y5, y6, y7, y8]) rfl ⟨by simp [En.val, enZero], HF.out.1, HF.out.2⟩

set_option maxRecDepth 100000 in
set_option maxHeartbeats 4000000 in
theorem rentry_4 (rb : Nat) (r : List Nat × Bool) (w : World) (h : RdAt w rb r) (hp : ¬ (rsmall 127 r).1 % 2 = 1) (hkd : (rsmall 4 (rsmall 127 r).2).1 = 4) :
    Calls Try.prog 30 #[.pointer (some ⟨rb, 0, none⟩)] w fun e w' => e = .returned (rentry r).1.val ∧ RdAt w' rb (rentry r).2 ∧ Chg (fun j => j = rb) w w' := by
  have hre : rentry r = ({ enZero with thread := ((rsmall 127 r).1 / 2 : Nat), kind := ((rsmall 4 (rsmall 127 r).2).1 : Nat), topic := ((rsmall 3 (rsmall 4 (rsmall 127 r).2).2).1 : Nat), gk := ((rhandle (rsmall 3 (rsmall 4 (rsmall 127 r).2).2).2).1.1 : Nat), gen := (rhandle (rsmall 3 (rsmall 4 (rsmall 127 r).2).2).2).1.2, pos := (rnum (rhandle (rsmall 3 (rsmall 4 (rsmall 127 r).2).2).2).2).1 }, (rnum (rhandle (rsmall 3 (rsmall 4 (rsmall 127 r).2).2).2).2).2) := by unfold rentry; rw [if_neg hp]; dsimp only; rw [if_neg (by omega), if_neg (by omega), if_pos hkd]
  have HR := Lib.hid h
  obtain ⟨k, hk⟩ : ∃ k, (rsmall 127 r).1 = k := ⟨_, rfl⟩
  obtain ⟨r1, hr1⟩ : ∃ k, (rsmall 127 r).2 = k := ⟨_, rfl⟩
  have HC := fun W => Lib.hid (fun h => rsmall_calls rb 127 r W h (by decide))
  rw [hk, hr1] at HC
  rw [hr1] at hkd
  rw [hk] at hp
  rw [hk, hr1] at hre
  have tp : ((k : Int) % 2 == 1) = false := by rw [beq_eq_false_iff_ne]; omega
  have hk127 : k ≤ 127 := by rw [← hk]; exact rsmall_le 127 r
  obtain ⟨kd, hd⟩ : ∃ k, (rsmall 4 r1).1 = k := ⟨_, rfl⟩
  obtain ⟨r2, hr2⟩ : ∃ k, (rsmall 4 r1).2 = k := ⟨_, rfl⟩
  obtain ⟨tp', htp⟩ : ∃ k, (rsmall 3 r2).1 = k := ⟨_, rfl⟩
  obtain ⟨r3, hr3⟩ : ∃ k, (rsmall 3 r2).2 = k := ⟨_, rfl⟩
  have HC4 := fun W => Lib.hid (fun h => rsmall_lit rb 4 4 (by rfl) r1 W h (by decide))
  have HC3 := fun W => Lib.hid (fun h => rsmall_lit rb 3 3 (by rfl) r2 W h (by decide))
  rw [hd, hr2] at HC4
  rw [htp, hr3] at HC3
  rw [hd] at hkd
  rw [hd, hr2, htp, hr3] at hre
  obtain ⟨gk, hgk⟩ : ∃ k, (rhandle r3).1.1 = k := ⟨_, rfl⟩
  obtain ⟨gn, hgn⟩ : ∃ k, (rhandle r3).1.2 = k := ⟨_, rfl⟩
  obtain ⟨r4, hr4⟩ : ∃ k, (rhandle r3).2 = k := ⟨_, rfl⟩
  have HCH := fun W bx => Lib.hid (fun h1 h2 h3 => rhandle_calls rb bx r3 W h1 h2 h3)
  rw [hgk, hgn, hr4] at HCH
  rw [hgk, hgn, hr4] at hre
  obtain ⟨ps, hps⟩ : ∃ k, (rnum r4).1 = k := ⟨_, rfl⟩
  obtain ⟨r5, hr5⟩ : ∃ k, (rnum r4).2 = k := ⟨_, rfl⟩
  have HCN := fun W => Lib.hid (fun h => rnumber_calls rb r4 W h)
  rw [hps, hr5] at HCN
  rw [hps, hr5] at hre
  clear hgk hgn hr4 hps hr5
  have t_0 : ((kd : Int) == 0) = false := by rw [beq_eq_false_iff_ne]; omega
  have t_2 : ((kd : Int) == 2) = false := by rw [beq_eq_false_iff_ne]; omega
  have t_3 : ((kd : Int) == 3) = false := by rw [beq_eq_false_iff_ne]; omega
  have t_4 : ((kd : Int) == 4) = true := by rw [beq_iff_eq]; omega

  rw [hre]
  have HK := Lib.hid (And.intro hp hkd)
  clear hk hr1 hp h hre hd hr2 htp hr3 hkd
  have hmf : ∀ (fn : Fn) (first cap : Array Value) (w : World), (Instr.makeFunc fn first cap).run Try.prog w = .ok (.func fn first cap) w := fun _ _ _ _ => rfl
  go_enter Try.func30, Try.ntmps30
  go_wp2_with fail
  have HRD : Hid (RdAt ((w.alloc (.cells #[.pointer (some ⟨rb, 0, none⟩)] 65)).alloc (.cells enZero.vals.toArray 34)) rb r) := Lib.hid (HR.out.below (bnew (bnew (Below.refl _ _) _) _))
  have HC0 : Hid (Chg (fun j => j = rb) w ((w.alloc (.cells #[.pointer (some ⟨rb, 0, none⟩)] 65)).alloc (.cells enZero.vals.toArray 34))) := Lib.hid (((Chg.refl _ w).alloc _).alloc _)
  have HBX : Hid (Blk ((w.alloc (.cells #[.pointer (some ⟨rb, 0, none⟩)] 65)).alloc (.cells enZero.vals.toArray 34)) w.heap.size 65 [.pointer (some ⟨rb, 0, none⟩)]) := Lib.hid ((Blk.new w _ [.pointer (some ⟨rb, 0, none⟩)]).alloc _)
  have HRS : Hid (Blk ((w.alloc (.cells #[.pointer (some ⟨rb, 0, none⟩)] 65)).alloc (.cells enZero.vals.toArray 34)) (w.heap.size + 1) 34 enZero.vals) := Lib.hid (by have h := Blk.new (w.alloc (.cells #[.pointer (some ⟨rb, 0, none⟩)] 65)) 34 enZero.vals; simpa using h)
  refine ((HC _).out HRD.out).mono ?_; rintro e w1 ⟨rfl, hr2, hc2⟩
  have HES : Hid (ES w (w1.alloc (.cells #[.int .i64 ((k : Int) / 2), .bool false, .int .i64 0, .int .i64 0, .int .i64 0, .int .u64 0, .int .i64 0, .string noText, .int .u64 0] 34)) rb w.heap.size w1.heap.size [.int .i64 ((k : Int) / 2), .bool false, .int .i64 0, .int .i64 0, .int .i64 0, .int .u64 0, .int .i64 0, .string noText, .int .u64 0] r1) := Lib.hid (by
    have hl := HR.out.blk_lt
    have hz := hc2.size
    simp at hz
    exact ⟨(HBX.out.chg hc2 (by omega)).alloc _, (HRS.out.chg hc2 (by omega)).alloc _, Blk.new w1 _ [_, _, _, _, _, _, _, _, _], hr2.below (bnew (Below.refl _ _) _), (HC0.out.trans hc2 (fun _ _ h => h)).alloc _, hl, by omega, rfl⟩)
  clear hr2 hc2
  go_upto_region 7 with fail
  generalize w1.alloc (.cells #[.int .i64 ((k : Int) / 2), .bool false, .int .i64 0, .int .i64 0, .int .i64 0, .int .u64 0, .int .i64 0, .string noText, .int .u64 0] 34) = w2 at HES ⊢
  generalize hs2 : w1.heap.size = s2 at HES ⊢
  generalize hs0 : w.heap.size = s0 at HES HC0 HBX HRS ⊢
  clear hs2 hs0 HC0 HBX HRS HRD HC
  have HED := Lib.hid HES.out.drew
  have HEB := Lib.hid (HES.out.drew.box.cell 0)
  have HER := Lib.hid HES.out.drew.rd
  have HNE := Lib.hid HES.out.ne
  clear HES
  go_region_held3 (fun W => W.cell? ⟨s0, 0, none⟩ = some (.pointer (some ⟨rb, 0, none⟩))) (first | exact HEB.out | exact Chg.cell (by assumption) (by assumption) HNE.out.2.1 | exact set_keep HNE.out.1 (by assumption) | assumption) (first | (go_at_call 28; (with_reducible refine ((HC4 _).out HER.out).mono ?_); rintro e w3 ⟨rfl, hr3, hc3⟩) | (go_at_call 28; (with_reducible refine ((HC3 _).out (by assumption)).mono ?_); rintro e w4 ⟨rfl, hr4, hc4⟩; have hes4 := (HED.out.call (by assumption) (by assumption)).call hc4 hr4; have hec4 := en_cells hes4.ent; have hc42 := hec4.1.2.2.1; have hc43 := hec4.1.2.2.2.1; have hf42 := hec4.2.2.2.1; have hf43 := hec4.2.2.2.2.1; clear hec4))
  rename_i hh
  have HE5 := Lib.hid ((hes4.set (by simp) 2 (.int .i64 (kd : Nat))).set (by simp) 3 (.int .i64 (tp' : Nat)))
  simp only [List.set_cons_zero, List.set_cons_succ] at HE5
  clear hh hr4 hc4 hes4 hc42 hc43 hf42 hf43 hr3 hc3 HED HEB HER HNE
  generalize (w4.setCell ⟨s2, 2, none⟩ (.int .i64 (kd : Nat))).setCell ⟨s2, 3, none⟩ (.int .i64 (tp' : Nat)) = w5 at HE5 ⊢
  have he5 := en_cells HE5.out.ent
  have x2 := he5.1.2.2.1
  clear he5
  go_upto_region 15 with fail
  have HNE := Lib.hid HE5.out.ne
  have HEQ := HE5
  clear HE5 x2
  go_wp2_with fail
  refine ((HCH _ _).out HEQ.out.rd HEQ.out.box HNE.out.2.1).mono ?_; rintro e w4 ⟨rfl, hr4, hc4⟩; have hes4 := HEQ.out.call hc4 hr4; have hec4 := en_cells hes4.ent; have hc44 := hec4.1.2.2.2.2.1; have hc45 := hec4.1.2.2.2.2.2.1; have hf44 := hec4.2.2.2.2.2.1; have hf45 := hec4.2.2.2.2.2.2.1; clear hec4; have HES4 := Lib.hid hes4; clear hes4 hr4 hc4
  go_upto_region 16 with fail
  have HE6 := Lib.hid ((HES4.out.set (by simp) 4 (.int .i64 (gk : Nat))).set (by simp) 5 (.int .u64 (gn : Nat)))
  simp only [List.set_cons_zero, List.set_cons_succ] at HE6
  clear hc44 hc45 hf44 hf45 HES4 HEQ HNE
  generalize (w4.setCell ⟨s2, 4, none⟩ (.int .i64 (gk : Nat))).setCell ⟨s2, 5, none⟩ (.int .u64 (gn : Nat)) = w6 at HE6 ⊢
  have HEB := Lib.hid (HE6.out.box.cell 0)
  have xb := HEB.out
  simp only [List.getElem?_cons_zero] at xb
  go_wp2_with fail
  refine ((HCN _).out HE6.out.rd).mono ?_; rintro e w7 ⟨rfl, hr7, hc7⟩; have hes7 := HE6.out.call hc7 hr7; have hec7 := en_cells hes7.ent; have hc78 := hec7.1.2.2.2.2.2.2.2.2; have hf78 := hec7.2.2.2.2.2.2.2.2.2; clear hec7; have HES7 := Lib.hid hes7; clear hes7 hr7 hc7 xb
  go_upto_region 17 with fail
  have HE7 := Lib.hid (HES7.out.set (by simp) 8 (.int .u64 (ps : Nat)))
  simp only [List.set_cons_zero, List.set_cons_succ] at HE7
  clear hc78 hf78 HES7 HE6 HEB
  generalize w7.setCell ⟨s2, 8, none⟩ (.int .u64 (ps : Nat)) = w8 at HE7 ⊢
  have HE6 := HE7
  clear HE7
  have he5 := en_cells HE6.out.ent
  have he6 := en_cells HE6.out.res
  obtain ⟨⟨x0, x1, x2, x3, x4, x5, x6, x7, x8⟩, _⟩ := he5
  obtain ⟨⟨y0, y1, y2, y3, y4, y5, y6, y7, y8⟩, z0, z1, z2, z3, z4, z5, z6, z7, z8⟩ := he6
  go_wp2_with fail
  clear y0 y1 y2 y3 y4 y5 y6 y7 y8 z0 z1 z2 z3 z4 z5 z6 z7 z8 x0 x1 x2 x3 x4 x5 x6 x7 x8
  obtain ⟨W', hW', hf, hbl⟩ := en_finish HE6.out (.int .i64 ((k : Int) / 2)) (.bool false) (.int .i64 (kd : Nat)) (.int .i64 (tp' : Nat)) (.int .i64 (gk : Nat)) (.int .u64 (gn : Nat)) (.int .i64 0) (.string noText) (.int .u64 (ps : Nat))
  have HF := Lib.hid hf
  obtain ⟨⟨y0, y1, y2, y3, y4, y5, y6, y7, y8⟩, _⟩ := en_cells hbl
  rw [← hW']
  clear hW' hf hbl HE6
  refine bodyPost_ret (v := .agg #[.int .i64 ((k : Int) / 2), .bool false, .int .i64 (kd : Nat), .int .i64 (tp' : Nat), .int .i64 (gk : Nat), .int .u64 (gn : Nat), .int .i64 0, .string noText, .int .u64 (ps : Nat)]) (by simp [results, Try.results30, go_sem, y0, y1, y2, y3, y4, y5, y6, y7, y8]) rfl ⟨by simp [En.val, enZero], HF.out.1, HF.out.2⟩


theorem rentry_calls (rb : Nat) (r : List Nat × Bool) (w : World) (h : RdAt w rb r) :
    Calls Try.prog 30 #[.pointer (some ⟨rb, 0, none⟩)] w fun e w' => e = .returned (rentry r).1.val ∧ RdAt w' rb (rentry r).2 ∧ Chg (fun j => j = rb) w w' := by
  by_cases hp : (rsmall 127 r).1 % 2 = 1
  · exact rentry_pick rb r w h hp
  · have hle := rsmall_le 4 (rsmall 127 r).2
    have hk : (rsmall 4 (rsmall 127 r).2).1 = 0 ∨ (rsmall 4 (rsmall 127 r).2).1 = 1 ∨ (rsmall 4 (rsmall 127 r).2).1 = 2 ∨ (rsmall 4 (rsmall 127 r).2).1 = 3 ∨ (rsmall 4 (rsmall 127 r).2).1 = 4 := by omega
    rcases hk with hk | hk | hk | hk | hk
    · exact rentry_0 rb r w h hp hk
    · exact rentry_1 rb r w h hp hk
    · exact rentry_2 rb r w h hp hk
    · exact rentry_3 rb r w h hp hk
    · exact rentry_4 rb r w h hp hk
end Go.Proofs.Ytgfingdopelinaa
