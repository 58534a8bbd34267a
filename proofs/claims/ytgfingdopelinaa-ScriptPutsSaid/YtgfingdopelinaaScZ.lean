/- a script's bytes, whole: what is put is read; what is read was put. Plain. -/
import Derived.Test.YtgfingdopelinaaScX
namespace Go.Proofs.Ytgfingdopelinaa
set_option linter.unusedSimpArgs false
set_option linter.unusedVariables false
open Go.RowKit Go.Deep

theorem bad_entry {r : List Nat × Bool} (h : r.2 = true) : (rentry r).2.2 = true := by
  have h1 := bad_small (m := 127) h
  obtain ⟨r1, hr1⟩ : ∃ x, (rsmall 127 r).2 = x := ⟨_, rfl⟩
  rw [hr1] at h1
  have h2 := bad_small (m := 4) h1
  obtain ⟨r2, hr2⟩ : ∃ x, (rsmall 4 r1).2 = x := ⟨_, rfl⟩
  rw [hr2] at h2
  have h3 := bad_small (m := 3) h2
  obtain ⟨r3, hr3⟩ : ∃ x, (rsmall 3 r2).2 = x := ⟨_, rfl⟩
  rw [hr3] at h3
  have h4 := bad_small (m := 2) h3
  have h5 := bad_text h4
  have h6 := bad_handle h3
  have h7 := bad_num h6
  unfold rentry
  rw [hr1, hr2, hr3]
  split
  · exact h1
  · dsimp only
    split
    · exact h5
    · split
      · exact h3
      · split
        · exact h7
        · exact h6
theorem bad_tops (k : Nat) {r : List Nat × Bool} (h : r.2 = true) : (rtops k r).2.2 = true := by
  induction k generalizing r with
  | zero => exact h
  | succ k ih => exact ih (bad_small h)
theorem bad_ents (k : Nat) {r : List Nat × Bool} (h : r.2 = true) : (rents k r).2.2 = true := by
  cases k with
  | zero => exact h
  | succ k => unfold rents; rw [if_pos h]; exact h
theorem rtops_get (k : Nat) {r : List Nat × Bool} (hb : ∀ x ∈ r.1, x < 256) (h : (rtops k r).2.2 = false) :
    r.2 = false ∧ r.1 = putL (rtops k r).1 ++ (rtops k r).2.1 ∧ (rtops k r).1.length = k ∧ ∀ z ∈ (rtops k r).1, z ≤ 2147483648 := by
  induction k generalizing r with
  | zero => exact ⟨h, by simp [rtops, putL], rfl, by simp [rtops]⟩
  | succ k ih =>
    unfold rtops at h ⊢
    dsimp only at h ⊢
    have n1 : (rsmall 2147483648 r).2.2 = false := nb (bad_tops k) h
    obtain ⟨a1, a2, a3, _⟩ := rsmall_get hb n1
    obtain ⟨_, b2, b3, b4⟩ := ih (mem_rest a2 hb) h
    refine ⟨a1, ?_, by rw [List.length_cons, b3], fun z hz => ?_⟩
    · rw [putL_cons, List.append_assoc, ← b2]
      exact a2
    · rcases List.mem_cons.1 hz with rfl | hz
      · exact a3
      · exact b4 z hz
theorem rents_get (k : Nat) {r : List Nat × Bool} (hb : ∀ x ∈ r.1, x < 256) (h : (rents k r).2.2 = false) :
    r.2 = false ∧ r.1 = (rents k r).1.flatMap putE ++ (rents k r).2.1 ∧ (rents k r).1.length = k ∧ ∀ e ∈ (rents k r).1, EnOk e := by
  induction k generalizing r with
  | zero => exact ⟨h, by simp [rents], rfl, by simp [rents]⟩
  | succ k ih =>
    cases hr : r.2 with
    | true =>
      have := bad_ents (k + 1) hr
      rw [this] at h
      cases h
    | false =>
      unfold rents at h ⊢
      rw [if_neg (by simp [hr])] at h ⊢
      dsimp only at h ⊢
      have n1 : (rentry r).2.2 = false := nb (bad_ents k) h
      obtain ⟨a1, a2, a3⟩ := rentry_get hb n1
      obtain ⟨_, b2, b3, b4⟩ := ih (mem_rest a2 hb) h
      refine ⟨rfl, ?_, by rw [List.length_cons, b3], fun z hz => ?_⟩
      · rw [List.flatMap_cons, List.append_assoc, ← b2]
        exact a2
      · rcases List.mem_cons.1 hz with rfl | hz
        · exact a3
        · exact b4 z hz

theorem enok_clean {e : En} (h : EnOk e) : e.clean = e ∧ e.rightB = true ∧ e.gen < 18446744073709551616 ∧ e.pos < 18446744073709551616 := by
  have hI : ∀ (a b : Nat) (x y : Int), x = (a : Nat) → y = (b : Nat) → a ≤ b → inB x 0 y = true := by
    intro a b x y hx hy h
    rw [inB_true, hx, hy]
    omega
  have hcl : e.clean = e := by
    cases h with
    | pick a h => unfold En.clean enZero; simp
    | k0 a tp md tx h h1 h2 h3 => unfold En.clean enZero; simp
    | k1 a tp h h1 => unfold En.clean enZero; simp
    | k23 a kd tp gk gn h h1 h2 h3 h4 => unfold En.clean enZero; rcases h2 with rfl | rfl <;> simp
    | k4 a tp gk gn ps h h1 h3 h4 h5 => unfold En.clean enZero; simp
  refine ⟨hcl, ?_, ?_⟩
  · unfold En.rightB callB
    rw [hcl]
    simp only [Bool.and_eq_true, Bool.or_eq_true, inB_true, decide_eq_true_eq]
    cases h with
    | pick a h => exact ⟨by simp only; omega, .inl rfl⟩
    | k0 a tp md tx h h1 h2 h3 => refine ⟨by simp only; omega, .inr ⟨⟨⟨⟨?_, ?_⟩, ?_⟩, ?_⟩, ?_⟩⟩ <;> simp only [enZero] <;> omega
    | k1 a tp h h1 => refine ⟨by simp only; omega, .inr ⟨⟨⟨⟨?_, ?_⟩, ?_⟩, ?_⟩, ?_⟩⟩ <;> first | (simp only [enZero]; omega) | (show ((0 : Nat) : Int) ≤ 64; decide)
    | k23 a kd tp gk gn h h1 h2 h3 h4 => refine ⟨by simp only; omega, .inr ⟨⟨⟨⟨?_, ?_⟩, ?_⟩, ?_⟩, ?_⟩⟩ <;> first | (simp only [enZero]; omega) | (show ((0 : Nat) : Int) ≤ 64; decide)
    | k4 a tp gk gn ps h h1 h3 h4 h5 => refine ⟨by simp only; omega, .inr ⟨⟨⟨⟨?_, ?_⟩, ?_⟩, ?_⟩, ?_⟩⟩ <;> first | (simp only [enZero]; omega) | (show ((0 : Nat) : Int) ≤ 64; decide)
  · cases h with
    | pick a h => exact ⟨Nat.zero_lt_succ _, Nat.zero_lt_succ _⟩
    | k0 a tp md tx h h1 h2 h3 => exact ⟨Nat.zero_lt_succ _, Nat.zero_lt_succ _⟩
    | k1 a tp h h1 => exact ⟨Nat.zero_lt_succ _, Nat.zero_lt_succ _⟩
    | k23 a kd tp gk gn h h1 h2 h3 h4 => exact ⟨h4, Nat.zero_lt_succ _⟩
    | k4 a tp gk gn ps h h1 h3 h4 h5 => exact ⟨h4, h5⟩
theorem flat_congr {α : Type} (f g : α → List Nat) (l : List α) (h : ∀ x ∈ l, f x = g x) : l.flatMap f = l.flatMap g := by
  induction l with
  | nil => rfl
  | cons x l ih => rw [List.flatMap_cons, List.flatMap_cons, h x (List.mem_cons_self ..), ih (fun y hy => h y (List.mem_cons_of_mem _ hy))]
theorem toInts_toNat (l : List Nat) : (toInts l).map Int.toNat = l := by
  unfold toInts
  rw [List.map_map]
  conv => rhs; rw [← List.map_id l]
  apply List.map_congr_left
  intro x _
  simp
theorem toInts_len (l : List Nat) : (toInts l).length = l.length := by simp [toInts]
theorem rdA_eq (bs : List Nat) : rdA bs = rsmall 64 (bs, false) := rfl
theorem rdT0_eq (bs : List Nat) : rdT0 bs = rsmall 4 (rdA bs).2 := rfl
theorem rdT_eq (bs : List Nat) : rdT bs = rtops (rdT0 bs).1 (rdT0 bs).2 := rfl
theorem rdW_eq (bs : List Nat) : rdW bs = rsmall 8 (rdT bs).2 := rfl
theorem rdB_eq (bs : List Nat) : rdB bs = rsmall 1024 (rdW bs).2 := rfl
theorem rdS_eq (bs : List Nat) : rdS bs = rnum (rdB bs).2 := rfl
theorem rdM_eq (bs : List Nat) : rdM bs = rsmall 65536 (rdS bs).2 := rfl
theorem rdE_eq (bs : List Nat) : rdE bs = rents (rdM bs).1 (rdM bs).2 := rfl
/-- bytes that are read were put. -/
theorem read_put {bs : List Nat} (hb : ∀ x ∈ bs, x < 256) (h : rdOk bs = true) :
    bs = putS ((rdA bs).1 : Nat) ((rdW bs).1 : Nat) ((rdB bs).1 : Nat) ((rdS bs).1 : Nat) (toInts (rdT bs).1) (rdE bs).1 ∧ (∀ e ∈ (rdE bs).1, EnOk e) ∧ (rdE bs).1.length ≤ 65536 := by
  unfold rdOk at h
  simp only [Bool.and_eq_true, Bool.not_eq_true', List.isEmpty_iff, decide_eq_true_eq] at h
  obtain ⟨⟨⟨hbad, hemp⟩, hsw⟩, hcf⟩ := h
  have e1 := rdA_eq bs
  have e2 := rdT0_eq bs
  have e3 := rdT_eq bs
  have e4 := rdW_eq bs
  have e5 := rdB_eq bs
  have e6 := rdS_eq bs
  have e7 := rdM_eq bs
  have e8 := rdE_eq bs
  obtain ⟨A, hA⟩ : ∃ x, rdA bs = x := ⟨_, rfl⟩
  obtain ⟨T0, hT0⟩ : ∃ x, rdT0 bs = x := ⟨_, rfl⟩
  obtain ⟨T, hT⟩ : ∃ x, rdT bs = x := ⟨_, rfl⟩
  obtain ⟨W, hW⟩ : ∃ x, rdW bs = x := ⟨_, rfl⟩
  obtain ⟨B, hB⟩ : ∃ x, rdB bs = x := ⟨_, rfl⟩
  obtain ⟨S, hS⟩ : ∃ x, rdS bs = x := ⟨_, rfl⟩
  obtain ⟨M, hM⟩ : ∃ x, rdM bs = x := ⟨_, rfl⟩
  obtain ⟨E, hE⟩ : ∃ x, rdE bs = x := ⟨_, rfl⟩
  simp only [hA, hT0, hT, hW, hB, hS, hM, hE] at *
  clear hA hT0 hT hW hB hS hM hE
  have nM : M.2.2 = false := by rw [e8] at hbad; exact nb (bad_ents M.1 (r := M.2)) hbad
  have nS : S.2.2 = false := by rw [e7] at nM; exact nb (bad_small (m := 65536) (r := S.2)) nM
  have nB : B.2.2 = false := by rw [e6] at nS; exact nb (bad_num (r := B.2)) nS
  have nW : W.2.2 = false := by rw [e5] at nB; exact nb (bad_small (m := 1024) (r := W.2)) nB
  have nT : T.2.2 = false := by rw [e4] at nW; exact nb (bad_small (m := 8) (r := T.2)) nW
  have nT0 : T0.2.2 = false := by rw [e3] at nT; exact nb (bad_tops T0.1 (r := T0.2)) nT
  have nA : A.2.2 = false := by rw [e2] at nT0; exact nb (bad_small (m := 4) (r := A.2)) nT0
  have a0 := rsmall_get (m := 64) (r := (bs, false)) hb (by rw [← e1]; exact nA)
  rw [← e1] at a0
  obtain ⟨_, a2, a3, _⟩ := a0
  dsimp only at a2
  have a4 := mem_rest a2 hb
  have b0 := rsmall_get (m := 4) (r := A.2) a4 (by rw [← e2]; exact nT0)
  rw [← e2] at b0
  obtain ⟨_, b2, b3, _⟩ := b0
  have b4 := mem_rest b2 a4
  have c0 := rtops_get T0.1 (r := T0.2) b4 (by rw [← e3]; exact nT)
  rw [← e3] at c0
  obtain ⟨_, c2, c3, c5⟩ := c0
  have c4 := mem_rest c2 b4
  have d0 := rsmall_get (m := 8) (r := T.2) c4 (by rw [← e4]; exact nW)
  rw [← e4] at d0
  obtain ⟨_, d2, d3, _⟩ := d0
  have d4 := mem_rest d2 c4
  have f0 := rsmall_get (m := 1024) (r := W.2) d4 (by rw [← e5]; exact nB)
  rw [← e5] at f0
  obtain ⟨_, f2, f3, _⟩ := f0
  have f4 := mem_rest f2 d4
  have g0 := rnum_get (r := B.2) f4 (by rw [← e6]; exact nS)
  rw [← e6] at g0
  obtain ⟨_, g2, g3⟩ := g0
  have g4 := mem_rest g2 f4
  have i0 := rsmall_get (m := 65536) (r := S.2) g4 (by rw [← e7]; exact nM)
  rw [← e7] at i0
  obtain ⟨_, i2, i3, _⟩ := i0
  have i4 := mem_rest i2 g4
  have j0 := rents_get M.1 (r := M.2) i4 (by rw [← e8]; exact hbad)
  rw [← e8] at j0
  obtain ⟨_, h2, h3, h5⟩ := j0
  clear e1 e2 e3 e4 e5 e6 e7 e8
  refine ⟨?_, h5, by rw [h3]; exact i3⟩
  have hcl : E.1.flatMap (fun e => putE e.clean) = E.1.flatMap putE := by
    apply flat_congr
    intro e he
    rw [(enok_clean (h5 e he)).1]
  unfold putS
  rw [hcl, toInts_toNat, toInts_len, c3, h3]
  simp only [Int.toNat_natCast]
  rw [hemp, List.append_nil] at h2
  conv => lhs; rw [a2, b2, c2, d2, f2, g2, i2, h2]
  simp [putL_cons, putL_nil]

/-- bytes that were put are read. -/
theorem put_read (a wd bk sp : Nat) (zs : List Nat) (es : List En) (t : List Nat) (ha : a ≤ 64) (hn : zs.length ≤ 4) (hz : ∀ z ∈ zs, z ≤ 2147483648) (hw : wd ≤ 8) (hk : bk ≤ 1024) (hs : sp < 18446744073709551616) (hm : es.length ≤ 65536) (he : ∀ e ∈ es, EnOk e)
    (bs : List Nat) (hbs : bs = putS (a : Nat) (wd : Nat) (bk : Nat) (sp : Nat) (toInts zs) es ++ t) :
    (rdA bs).1 = a ∧ (rdT bs).1 = zs ∧ (rdW bs).1 = wd ∧ (rdB bs).1 = bk ∧ (rdS bs).1 = sp ∧ rdE bs = (es, (t, false)) := by
  have hcl : es.flatMap (fun e => putE e.clean) = es.flatMap putE := flat_congr _ _ _ (fun e h => by rw [(enok_clean (he e h)).1])
  have e0 : bs = putN a ++ (putN zs.length ++ (putL zs ++ (putN wd ++ (putN bk ++ (putN sp ++ (putN es.length ++ (es.flatMap putE ++ t))))))) := by
    rw [hbs]
    unfold putS
    rw [hcl, toInts_toNat, toInts_len]
    simp [putL_cons, putL_nil]
  have e1 : rdA bs = (a, (putN zs.length ++ (putL zs ++ (putN wd ++ (putN bk ++ (putN sp ++ (putN es.length ++ (es.flatMap putE ++ t)))))), false)) := by
    rw [rdA_eq, e0, rsmall_put 64 a _ false (by decide) ha]
  have e2 : rdT0 bs = (zs.length, (putL zs ++ (putN wd ++ (putN bk ++ (putN sp ++ (putN es.length ++ (es.flatMap putE ++ t))))), false)) := by
    rw [rdT0_eq, e1]
    exact rsmall_put 4 zs.length _ false (by decide) hn
  have e3 : rdT bs = (zs, (putN wd ++ (putN bk ++ (putN sp ++ (putN es.length ++ (es.flatMap putE ++ t)))), false)) := by
    rw [rdT_eq, e2]
    exact rtops_put zs _ false hz
  have e4 : rdW bs = (wd, (putN bk ++ (putN sp ++ (putN es.length ++ (es.flatMap putE ++ t))), false)) := by
    rw [rdW_eq, e3]
    exact rsmall_put 8 wd _ false (by decide) hw
  have e5 : rdB bs = (bk, (putN sp ++ (putN es.length ++ (es.flatMap putE ++ t)), false)) := by
    rw [rdB_eq, e4]
    exact rsmall_put 1024 bk _ false (by decide) hk
  have e6 : rdS bs = (sp, (putN es.length ++ (es.flatMap putE ++ t), false)) := by
    rw [rdS_eq, e5]
    exact rnum_put sp _ false hs
  have e7 : rdM bs = (es.length, (es.flatMap putE ++ t, false)) := by
    rw [rdM_eq, e6]
    exact rsmall_put 65536 es.length _ false (by decide) hm
  have e8 : rdE bs = (es, (t, false)) := by
    rw [rdE_eq, e7]
    exact rents_put es he t
  rw [e1, e3, e4, e5, e6]
  exact ⟨rfl, rfl, rfl, rfl, rfl, e8⟩
end Go.Proofs.Ytgfingdopelinaa
