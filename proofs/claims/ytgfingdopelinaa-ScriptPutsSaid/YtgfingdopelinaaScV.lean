/- contract of Read. -/
import Derived.Test.YtgfingdopelinaaScU
import Derived.Test.YtgfingdopelinaaScY
import Derived.Deep.RegionLaw
import Derived.Deep.CutBlock
import Derived.Deep.DeepCutAuto
import Derived.WalkMore
namespace Go.Proofs.Ytgfingdopelinaa
set_option linter.unusedSimpArgs false
set_option linter.unusedVariables false
open Go.RowKit Go.Deep

theorem rtops_succ (k : Nat) (r : List Nat × Bool) : rtops (k + 1) r = ((rsmall 2147483648 r).1 :: (rtops k (rsmall 2147483648 r).2).1, (rtops k (rsmall 2147483648 r).2).2) := rfl
theorem toInts_app (a b : List Nat) : toInts (a ++ b) = toInts a ++ toInts b := by unfold toInts; rw [List.map_append]
theorem toInts1 (l : List Nat) (x : Nat) : toInts (l ++ [x]) = toInts l ++ [(x : Int)] := by rw [toInts_app]; rfl
theorem own_slice {w : World} {base size : Nat} {e : TypeId} {v : Value} {n : Nat} {xs : List Value} (h : w.ownsRow base e size v n xs) : ∃ (A : Option Addr) (m c : Nat), v = .slice A m c := by
  rcases h.2 with ⟨rfl, rfl⟩ | ⟨g, cap, cur, rfl, _⟩
  · exact ⟨_, _, _, rfl⟩
  · exact ⟨_, _, _, rfl⟩
theorem rents_bad (k : Nat) {r : List Nat × Bool} (h : r.2 = true) : rents (k + 1) r = ([], r) := by
  show (if r.2 then _ else _) = _
  rw [if_pos h]
theorem rents_go (k : Nat) {r : List Nat × Bool} (h : r.2 = false) : rents (k + 1) r = ((rentry r).1 :: (rents k (rentry r).2).1, (rents k (rentry r).2).2) := by
  show (if r.2 then _ else _) = _
  rw [if_neg (by rw [h]; decide)]
theorem rtops_le (k : Nat) (r : List Nat × Bool) : ∀ z ∈ (rtops k r).1, z ≤ 2147483648 := by
  induction k generalizing r with
  | zero => intro z hz; simp [rtops] at hz
  | succ k ih =>
    intro z hz
    rw [rtops_succ] at hz
    rcases List.mem_cons.1 hz with rfl | hz
    · exact rsmall_le 2147483648 r
    · exact ih _ z hz
theorem toInts_length (l : List Nat) : (toInts l).length = l.length := by simp [toInts]
theorem fin_set {w W : World} {q0 : Nat} {cs : List Value} {r : List Nat × Bool} {vT vE : Value} {zs : List Int} {es : List En} (h : RS w W q0 cs r vT zs vE es) (v0 v1 v2 v3 v4 v5 : Value) :
    ∃ W', W' = (((((((W).setCell ⟨q0, 0, none⟩ v0).setCell ⟨q0, 1, none⟩ v1).setCell ⟨q0, 2, none⟩ v2).setCell ⟨q0, 3, none⟩ v3).setCell ⟨q0, 4, none⟩ v4).setCell ⟨q0, 5, none⟩ v5) ∧ Below q0 w W' ∧ Blk W' q0 46 [v0, v1, v2, v3, v4, v5] ∧ Chg (fun j => j = q0) W W' := by
  have hb := (((((h.res.set 0 v0).set 1 v1).set 2 v2).set 3 v3).set 4 v4).set 5 v5
  have hc : Chg (fun j => j = q0) W (((((((W).setCell ⟨q0, 0, none⟩ v0).setCell ⟨q0, 1, none⟩ v1).setCell ⟨q0, 2, none⟩ v2).setCell ⟨q0, 3, none⟩ v3).setCell ⟨q0, 4, none⟩ v4).setCell ⟨q0, 5, none⟩ v5) := ((((((Chg.refl (fun j => j = q0) W).setCell ⟨q0, 0, none⟩ v0 (fun _ => rfl)).setCell ⟨q0, 1, none⟩ v1 (fun _ => rfl)).setCell ⟨q0, 2, none⟩ v2 (fun _ => rfl)).setCell ⟨q0, 3, none⟩ v3 (fun _ => rfl)).setCell ⟨q0, 4, none⟩ v4 (fun _ => rfl)).setCell ⟨q0, 5, none⟩ v5 (fun _ => rfl)
  exact ⟨_, rfl, hc.below h.bel (by have := h.bel.size; have := h.q; omega) (fun k hk => by omega), hb, hc⟩
theorem own_isat {w : World} {base : Nat} {A : Option Addr} {n c : Nat} {zs : List Int} (h : w.ownsRow base 3 1 (.slice A n c) zs.length (ints zs)) (hz : ∀ z ∈ zs, -9223372036854775808 ≤ z ∧ z < 9223372036854775808) : IsAt w A n c zs := by
  rcases h.2 with ⟨h0, h1⟩ | ⟨g, cap, cur, h0, h1, h2, h3, h4, _⟩
  · injection h0 with e1 e2 e3
    subst e1 e2 e3
    exact ⟨h1, by omega, by omega, hz, fun h => by omega⟩
  · injection h0 with e1 e2 e3
    subst e1 e2 e3
    refine ⟨rfl, h3, by simpa [maxLen] using h4, hz, fun hp => ⟨g, 0, rfl, fun i hi => ?_⟩⟩
    have := h.cells (g := g) rfl i (.int .i64 (zs.getD i 0)) (by unfold ints; rw [List.getElem?_map, List.getElem?_eq_getElem hi]; simp [List.getD, hi])
    rw [add_none] at this
    exact this
theorem ents_get (es : List En) : ∀ (i : Nat), i < es.length → ∀ j v, ((es.getD i enZero).vals)[j]? = some v → (ents es)[i * 9 + j]? = some v := by
  induction es with
  | nil => intro i h; simp at h
  | cons e t ih =>
    intro i hi j v hv
    have he : ents (e :: t) = e.vals ++ ents t := by unfold ents; rw [List.flatMap_cons]
    have hl : e.vals.length = 9 := rfl
    rw [he]
    match i, hi with
    | 0, _ =>
      have hj : j < 9 := by
        have h1 := (List.getElem?_eq_some_iff.1 hv).1
        simpa [En.vals] using h1
      rw [List.getElem?_append_left (by omega)]
      simpa using hv
    | i + 1, hi =>
      rw [List.getElem?_append_right (by omega), show (i + 1) * 9 + j - e.vals.length = i * 9 + j by omega]
      exact ih i (by simpa using hi) j v (by simpa using hv)
theorem own_ensat {w : World} {base : Nat} {A : Option Addr} {n c : Nat} {es : List En} (h : w.ownsRow base 34 9 (.slice A n c) es.length (ents es)) (hz : ∀ e ∈ es, e.gen < 18446744073709551616 ∧ e.pos < 18446744073709551616) : EnsAt w A n c es := by
  rcases h.2 with ⟨h0, h1⟩ | ⟨g, cap, cur, h0, h1, h2, h3, h4, _⟩
  · injection h0 with e1 e2 e3
    subst e1 e2 e3
    exact ⟨h1, by omega, by omega, hz, fun h => by omega⟩
  · injection h0 with e1 e2 e3
    subst e1 e2 e3
    refine ⟨rfl, h3, by simpa [maxLen] using h4, hz, fun hp => ⟨g, 0, rfl, fun i hi j v hv => ?_⟩⟩
    have := h.cells (g := g) rfl (i * 9 + j) v (ents_get es i hi j v hv)
    rw [add_none] at this
    exact this
def zscriptV : Value := .agg #[.int .i64 0, .slice none 0 0, .int .i64 0, .int .i64 0, .int .i64 0, .slice none 0 0]
/-- what Read comes to. -/
def ReadPost (w : World) (bs : List Nat) (r : Ending) (w' : World) : Prop :=
  (rdOk bs = false → r = .returned (.tuple #[zscriptV, .int .i64 11])) ∧
  (rdOk bs = true → ∃ (A : Option Addr) (n c : Nat) (E : Option Addr) (m k : Nat), r = .returned (.tuple #[scriptV ((rdA bs).1 : Nat) A n c ((rdW bs).1 : Nat) ((rdB bs).1 : Nat) ((rdS bs).1 : Nat) E m k, .int .i64 0]) ∧ IsAt w' A n c (toInts (rdT bs).1) ∧ ((∀ e ∈ (rdE bs).1, e.gen < 18446744073709551616 ∧ e.pos < 18446744073709551616) → EnsAt w' E m k (rdE bs).1)) ∧ Below w.heap.size w w'
set_option maxRecDepth 100000 in
set_option maxHeartbeats 8000000 in
theorem read_calls (A : Option Addr) (n cap : Nat) (bs : List Nat) (w : World) (hs : BsAt w A n cap bs) (hA : 0 < n → AtLt A w.heap.size) (hn : n ≤ 1048576) :
    Calls Try.prog 16 #[.slice A n cap] w fun r w' => ReadPost w bs r w' := by
  have HS0 := Lib.hid (RS.start hs hA)
  have t0 : decide ((1048576 : Int) < (n : Int)) = false := by simp; omega
  obtain ⟨q0, hq0⟩ : ∃ q0, w.heap.size = q0 := ⟨_, rfl⟩
  rw [hq0] at HS0
  have HQ := Lib.hid hq0
  clear hs hA hn hq0
  obtain ⟨a, ha⟩ : ∃ x, (rdA bs).1 = x := ⟨_, rfl⟩
  obtain ⟨ra, hra⟩ : ∃ x, (rdA bs).2 = x := ⟨_, rfl⟩
  obtain ⟨nt, hnt⟩ : ∃ x, (rdT0 bs).1 = x := ⟨_, rfl⟩
  obtain ⟨rt, hrt⟩ : ∃ x, (rdT0 bs).2 = x := ⟨_, rfl⟩
  have HCA := fun W => Lib.hid (fun h => rsmall_lit (q0 + 1) 64 64 (by rfl) (bs, false) W h (by decide))
  have HCT0 := fun W => Lib.hid (fun h => rsmall_lit (q0 + 1) 4 4 (by rfl) ra W h (by decide))
  have hnt4 : nt ≤ 4 := by rw [← hnt]; exact rsmall_le 4 _
  rw [show rsmall 64 (bs, false) = rdA bs from rfl, ha, hra] at HCA
  rw [show rsmall 4 ra = rdT0 bs by rw [← hra]; rfl, hnt, hrt] at HCT0
  have HK1 := Lib.hid (And.intro ha (And.intro hra (And.intro hnt hrt)))
  clear ha hra hnt hrt
  go_enter Try.func16, Try.ntmps16
  go_wp2_with fail
  go_step3
  go_upto_region 5 with fail
  have HS0 := HS0
  rw [show szero.toArray = #[.int .i64 0, .slice none 0 0, .int .i64 0, .int .i64 0, .int .i64 0, .slice none 0 0] from rfl] at HS0
  rw [HQ.out]
  rw [show q0 + 1 + 1 = q0 + 2 from rfl]
  generalize ((w.alloc (.cells #[.int .i64 0, .slice none 0 0, .int .i64 0, .int .i64 0, .int .i64 0, .slice none 0 0] 46)).alloc (.cells #[.slice A n cap, .bool false] 67)).alloc (.cells #[.int .i64 0, .slice none 0 0, .int .i64 0, .int .i64 0, .int .i64 0, .slice none 0 0] 46) = w0 at HS0 ⊢
  go_wp2_with fail
  refine ((HCA _).out HS0.out.rd).mono ?_; rintro r w1 ⟨rfl, hr, hc⟩
  have HS1 := Lib.hid (HS0.out.call hc hr)
  obtain ⟨c0, c1, c2, c3, c4, c5⟩ := script_cells HS1.out.scr
  have z0 := HS1.out.scr.free 0
  clear hr hc HS0
  go_upto_region 6 with fail
  have HS2 := Lib.hid (HS1.out.set 0 (.int .i64 (a : Nat)) (by simp))
  simp only [szero, List.set_cons_zero] at HS2
  generalize w1.setCell ⟨q0 + 2, 0, none⟩ (.int .i64 (a : Nat)) = w2 at HS2 ⊢
  clear c0 c1 c2 c3 c4 c5 z0 HS1
  go_wp2_with fail
  refine ((HCT0 _).out HS2.out.rd).mono ?_; rintro r w3 ⟨rfl, hr, hc⟩
  have HS3 := Lib.hid (HS2.out.call hc hr)
  clear hr hc HS2
  go_upto_block 0 with fail
  go_wp2_with fail
  go_loopg [6] nt (fun g i wr => ∃ (j : Nat) (zs : List Nat) (rr : List Nat × Bool) (vT : Value), j = g ∧ i = .int .i64 j ∧ Hid (rtops nt rt = (zs ++ (rtops j rr).1, (rtops j rr).2)) ∧ zs.length + j ≤ 4 ∧ Hid (RS w wr q0 [.int .i64 (a : Nat), vT, .int .i64 0, .int .i64 0, .int .i64 0, .slice none 0 0] rr vT (toInts zs) (.slice none 0 0) []))
  case atStart => exact ⟨nt, [], rt, _, rfl, rfl, Lib.hid (by simp), by simp; exact hnt4, HS3⟩
  case round =>
    clear HS3
    obtain ⟨j, zs, rr, vT, rfl, rfl, HTT, hzl, HI⟩ := hrel
    rcases Nat.eq_zero_or_pos j with h0 | h0
    · subst h0
      have hT : rdT bs = (zs, rr) := by
        have h1 := HTT.out
        simp only [rtops, List.append_nil] at h1
        rw [← h1, ← HK1.out.2.2.1, ← HK1.out.2.2.2]
        rfl
      obtain ⟨wd, hwd⟩ : ∃ x, (rsmall 8 rr).1 = x := ⟨_, rfl⟩
      obtain ⟨rw8, hrw⟩ : ∃ x, (rsmall 8 rr).2 = x := ⟨_, rfl⟩
      obtain ⟨bk, hbk⟩ : ∃ x, (rsmall 1024 rw8).1 = x := ⟨_, rfl⟩
      obtain ⟨rb, hrb⟩ : ∃ x, (rsmall 1024 rw8).2 = x := ⟨_, rfl⟩
      obtain ⟨sw, hsw⟩ : ∃ x, (rnum rb).1 = x := ⟨_, rfl⟩
      obtain ⟨rs, hrs⟩ : ∃ x, (rnum rb).2 = x := ⟨_, rfl⟩
      obtain ⟨mm, hmm⟩ : ∃ x, (rsmall 65536 rs).1 = x := ⟨_, rfl⟩
      obtain ⟨rm, hrm⟩ : ∃ x, (rsmall 65536 rs).2 = x := ⟨_, rfl⟩
      have HC8 := fun W => Lib.hid (fun h => rsmall_lit (q0 + 1) 8 8 (by rfl) rr W h (by decide))
      have HC1024 := fun W => Lib.hid (fun h => rsmall_lit (q0 + 1) 1024 1024 (by rfl) rw8 W h (by decide))
      have HCN := fun W => Lib.hid (fun h => rnumber_calls (q0 + 1) rb W h)
      have HCM := fun W => Lib.hid (fun h => rsmall_lit (q0 + 1) 65536 65536 (by rfl) rs W h (by decide))
      rw [hwd, hrw] at HC8
      rw [hbk, hrb] at HC1024
      rw [hsw, hrs] at HCN
      rw [hmm, hrm] at HCM
      have HK2 : Hid (rdT bs = (zs, rr) ∧ rdW bs = (wd, rw8) ∧ rdB bs = (bk, rb) ∧ rdS bs = (sw, rs) ∧ rdM bs = (mm, rm)) := Lib.hid (by
        have e1 : rdW bs = (wd, rw8) := by
          show rsmall 8 (rdT bs).2 = _
          rw [hT]
          exact Prod.ext hwd hrw
        have e2 : rdB bs = (bk, rb) := by
          show rsmall 1024 (rdW bs).2 = _
          rw [e1]
          exact Prod.ext hbk hrb
        have e3 : rdS bs = (sw, rs) := by
          show rnum (rdB bs).2 = _
          rw [e2]
          exact Prod.ext hsw hrs
        have e4 : rdM bs = (mm, rm) := by
          show rsmall 65536 (rdS bs).2 = _
          rw [e3]
          exact Prod.ext hmm hrm
        exact ⟨hT, e1, e2, e3, e4⟩)
      have hmm65 : mm ≤ 65536 := by rw [← hmm]; exact rsmall_le 65536 _
      obtain ⟨sv, hsv⟩ : ∃ sv : Int, wrap64 (sw : Int) = sv := ⟨_, rfl⟩
      have HSV := Lib.hid hsv
      clear hT hwd hrw hbk hrb hsw hrs hmm hrm HTT
      go_wp2_with fail
      refine ((HC8 _).out HI.out.rd).mono ?_; rintro r w4 ⟨rfl, hr, hc⟩
      have HS4 := Lib.hid (HI.out.call hc hr)
      clear hr hc
      go_wp2_with fail
      refine ((HC1024 _).out HS4.out.rd).mono ?_; rintro r w5 ⟨rfl, hr, hc⟩
      have HS5 := Lib.hid (HS4.out.call hc hr)
      obtain ⟨c0, c1, c2, c3, c4, c5⟩ := script_cells HS5.out.scr
      have z2 := HS5.out.scr.free 2
      have z3 := HS5.out.scr.free 3
      clear hr hc HS4 HI
      go_upto_region 11 with fail
      have HS6 := Lib.hid ((HS5.out.set 2 (.int .i64 (wd : Nat)) (by simp)).set 3 (.int .i64 (bk : Nat)) (by simp))
      simp only [List.set_cons_zero, List.set_cons_succ] at HS6
      generalize (w5.setCell ⟨q0 + 2, 2, none⟩ (.int .i64 (wd : Nat))).setCell ⟨q0 + 2, 3, none⟩ (.int .i64 (bk : Nat)) = w6 at HS6 ⊢
      clear c0 c1 c2 c3 c4 c5 z2 z3 HS5
      go_wp2_with fail
      refine ((HCN _).out HS6.out.rd).mono ?_; rintro r w7 ⟨rfl, hr, hc⟩
      have HS7 := Lib.hid (HS6.out.call hc hr)
      obtain ⟨c0, c1, c2, c3, c4, c5⟩ := script_cells HS7.out.scr
      have z4 := HS7.out.scr.free 4
      clear hr hc HS6
      go_upto_region 13 with fail
      try rw [HSV.out]
      have HS8 := Lib.hid (HS7.out.set 4 (.int .i64 sv) (by simp))
      simp only [List.set_cons_zero, List.set_cons_succ] at HS8
      generalize w7.setCell ⟨q0 + 2, 4, none⟩ (.int .i64 sv) = w8 at HS8 ⊢
      clear c0 c1 c2 c3 c4 c5 z4 HS7 hsv
      go_wp2_with fail
      refine ((HCM _).out HS8.out.rd).mono ?_; rintro r w9 ⟨rfl, hr, hc⟩
      have HS9 := Lib.hid (HS8.out.call hc hr)
      clear hr hc HS8
      go_wp2
      go_step3
      go_upto_block 2 with fail
      have HZL := Lib.hid hzl
      clear hzl
      go_cut [52] (fun i wx => Hid (∃ (es : List En) (r9 : List Nat × Bool) (vE : Value), rents mm rm = (es, r9) ∧ es.length ≤ 65536 ∧ RS w wx q0 [.int .i64 (a : Nat), vT, .int .i64 (wd : Nat), .int .i64 (bk : Nat), .int .i64 sv, vE] r9 vT (toInts zs) vE es))
      case first =>
        go_wp2_with fail
        go_loopg [52] mm (fun g i wr => ∃ k : Nat, k ≤ mm ∧ g = mm - k ∧ i = .int .i64 k ∧ Hid (∃ (es : List En) (r9 : List Nat × Bool) (vE : Value), rents mm rm = (es ++ (rents (mm - k) r9).1, (rents (mm - k) r9).2) ∧ es.length = k ∧ RS w wr q0 [.int .i64 (a : Nat), vT, .int .i64 (wd : Nat), .int .i64 (bk : Nat), .int .i64 sv, vE] r9 vT (toInts zs) vE es))
        case atStart => exact ⟨0, by omega, rfl, rfl, Lib.hid ⟨[], rm, _, by simp, rfl, HS9.out⟩⟩
        case round =>
          clear HS9
          obtain ⟨k, hk, rfl, rfl, HI⟩ := hrel
          obtain ⟨es, r9, vE, hrents, hel, hRS⟩ := HI.out
          have HRE := Lib.hid hrents
          have HEL := Lib.hid hel
          have HR9 := Lib.hid hRS
          clear hrents hel hRS HI
          by_cases hlt : k < mm
          · obtain ⟨A9, n9, c9, hb9, _, _⟩ := HR9.out.rd
            have x1 : wr.cell? ⟨q0 + 1, 1, none⟩ = some (.bool r9.2) := hb9.cell 1
            clear hb9
            obtain ⟨B9, hB9⟩ : ∃ B, r9.2 = B := ⟨_, rfl⟩
            rw [hB9] at x1
            have HB9 := Lib.hid hB9
            clear hB9
            cases B9 with
            | true =>
              have HFIN : Hid (∃ (es : List En) (r9 : List Nat × Bool) (vE : Value), rents mm rm = (es, r9) ∧ es.length ≤ 65536 ∧ RS w wr q0 [.int .i64 (a : Nat), vT, .int .i64 (wd : Nat), .int .i64 (bk : Nat), .int .i64 sv, vE] r9 vT (toInts zs) vE es) := Lib.hid ⟨es, r9, vE, by
                rw [HRE.out]
                obtain ⟨j, hj⟩ : ∃ j, mm - k = j + 1 := ⟨mm - k - 1, by omega⟩
                rw [hj, rents_bad j HB9.out]
                simp, by have := HEL.out; omega, HR9.out⟩
              go_wp2
              go_meet
              case rel => exact HFIN
            | false =>
              obtain ⟨en, hen⟩ : ∃ x, (rentry r9).1 = x := ⟨_, rfl⟩
              obtain ⟨r10, hr10⟩ : ∃ x, (rentry r9).2 = x := ⟨_, rfl⟩
              have HCE := fun W => Lib.hid (fun h => rentry_calls (q0 + 1) r9 W h)
              rw [hen, hr10] at HCE
              have HTX : Hid (rents mm rm = ((es ++ [en]) ++ (rents (mm - (k + 1)) r10).1, (rents (mm - (k + 1)) r10).2)) := Lib.hid (by
                rw [HRE.out]
                obtain ⟨j, hj⟩ : ∃ j, mm - k = j + 1 := ⟨mm - k - 1, by omega⟩
                rw [hj, show mm - (k + 1) = j by omega, rents_go j HB9.out, hen, hr10]
                simp)
              have HED := Lib.hid HR9.out.drew
              have d5 : wr.cell? ⟨q0 + 2, 5, none⟩ = some vE := (script_cells HR9.out.scr).2.2.2.2.2
              obtain ⟨th, pk, kd, tp, gk, gn, md, tx, ps⟩ := en
              unfold En.val at HCE
              dsimp only at HCE
              clear hen hr10
              go_upto_region 17 with fail
              go_region_law (first | (rw [if_pos (by kernel_rfl)]; go_simp; go_at_call 30; (refine ((HCE _).out HED.out.rd).mono ?_); rintro r w10 ⟨rfl, hr4, hc4⟩; have hs4 := HED.out.call hc4 hr4; obtain ⟨v5, w11, hrun, ho5, hg5, hb5⟩ := appE_run w10 (q0 + 3) vE es (En.mk th pk kd tp gk gn md tx ps) hs4.ownE (by have := hs4.scr.lt; omega) (by have := HEL.out; omega); obtain ⟨A5, n5, k5, hv5⟩ := own_slice ho5; subst hv5; have hs5 := hs4.entries ho5 hg5 hb5; have e1 := (script_cells hs4.scr).2.2.2.2.2; have e2 := kalloc (.cells #[.int .i64 th, .bool pk, .int .i64 kd, .int .i64 tp, .int .i64 gk, .int .u64 gn, .int .i64 md, .string tx, .int .u64 ps] 34) e1; have f1 := (script_cells hs5.scr).2.2.2.2.2; have g1 := hs5.scr.free 5; have HS5 := Lib.hid hs5; clear hs4 ho5 hg5 hb5 hs5 hr4 hc4) | (rw [if_pos (by kernel_rfl)]; refine oper_append (.tmp 59) (.tmp 62) 25 rfl rfl rfl hrun ?_))
              all_goals
                have HS6 := Lib.hid (HS5.out.set 5 (.slice A5 n5 k5) (by simp))
                simp only [List.set_cons_succ, List.set_cons_zero] at HS6
                have HNX : Hid (∃ (es : List En) (r9 : List Nat × Bool) (vE : Value), rents mm rm = (es ++ (rents (mm - (k + 1)) r9).1, (rents (mm - (k + 1)) r9).2) ∧ es.length = k + 1 ∧ RS w (w11.setCell ⟨q0 + 2, 5, none⟩ (.slice A5 n5 k5)) q0 [.int .i64 (a : Nat), vT, .int .i64 (wd : Nat), .int .i64 (bk : Nat), .int .i64 sv, vE] r9 vT (toInts zs) vE es) := Lib.hid ⟨_, _, _, HTX.out, by rw [List.length_append, HEL.out]; rfl, HS6.out⟩
                clear HS5 HS6 e1 e2 f1 g1 hrun HED d5 x1
                go_wp2
                go_roundg (mm - (k + 1))
                case measure => omega
                case rel => exact ⟨k + 1, by omega, rfl, by go_num, HNX⟩
          · obtain rfl : mm = k := by omega
            clear hlt
            have HFIN : Hid (∃ (es : List En) (r9 : List Nat × Bool) (vE : Value), rents mm rm = (es, r9) ∧ es.length ≤ 65536 ∧ RS w wr q0 [.int .i64 (a : Nat), vT, .int .i64 (wd : Nat), .int .i64 (bk : Nat), .int .i64 sv, vE] r9 vT (toInts zs) vE es) := Lib.hid ⟨es, r9, vE, by
              rw [HRE.out, Nat.sub_self]
              simp [rents], by have := HEL.out; omega, HR9.out⟩
            go_wp2
            go_meet
            case rel => exact HFIN
      case rest =>
        obtain ⟨es, r9, vE, hrents, hel, hRS⟩ := hcut.out
        have hE : rdE bs = (es, r9) := by
          show rents (rdM bs).1 (rdM bs).2 = _
          rw [HK2.out.2.2.2.2]
          exact hrents
        have HE9 := Lib.hid hE
        have HR9 := Lib.hid hRS
        clear hrents hE hcut hRS HS9
        have hTl := HK2.out.1
        obtain ⟨A9, n9, c9, hb9, hs9, _⟩ := HR9.out.rd
        have x0 : wc.cell? ⟨q0 + 1, 0, none⟩ = some (.slice A9 n9 c9) := hb9.cell 0
        have x1 : wc.cell? ⟨q0 + 1, 1, none⟩ = some (.bool r9.2) := hb9.cell 1
        have HN9 : Hid (n9 = r9.1.length ∧ n9 ≤ 9223372036854775807) := Lib.hid ⟨hs9.1.symm, by have := hs9.2.1; have := hs9.2.2.1; omega⟩
        obtain ⟨B9, hB9⟩ : ∃ B, r9.2 = B := ⟨_, rfl⟩
        rw [hB9] at x1
        have HB9 := Lib.hid hB9
        clear hB9 hb9 hs9 hTl
        obtain ⟨c0, c1, c2, c3, c4, c5⟩ := script_cells HR9.out.scr
        obtain ⟨y0, y1, y2, y3, y4, y5⟩ := script_cells HR9.out.res
        have z0 := HR9.out.res.free 0
        have z1 := HR9.out.res.free 1
        have z2 := HR9.out.res.free 2
        have z3 := HR9.out.res.free 3
        have z4 := HR9.out.res.free 4
        have z5 := HR9.out.res.free 5
        obtain ⟨AT, nT, cT, hvT⟩ := own_slice HR9.out.ownT
        subst hvT
        obtain ⟨AE, nE, cE, hvE⟩ := own_slice HR9.out.ownE
        subst hvE
        cases B9 with
        | true =>
          have hok : rdOk bs = false := by unfold rdOk; rw [HE9.out, HB9.out]; rfl
          have HOK := Lib.hid hok
          clear hok
          go_wp2
          clear y0 y1 y2 y3 y4 y5 z0 z1 z2 z3 z4 z5 c0 c1 c2 c3 c4 c5
          obtain ⟨W', hW', hbl, hblk, _⟩ := fin_set HR9.out (.int .i64 0) (.slice none 0 0) (.int .i64 0) (.int .i64 0) (.int .i64 0) (.slice none 0 0)
          rw [← hW', Exit.noGoto_ret]
          obtain ⟨y0, y1, y2, y3, y4, y5⟩ := script_cells hblk
          have HBL := Lib.hid hbl
          clear hW' hbl hblk
          refine bodyPost_ret (v := .tuple #[.agg #[.int .i64 0, .slice none 0 0, .int .i64 0, .int .i64 0, .int .i64 0, .slice none 0 0], .int .i64 11]) (by simp [results, Try.results16, go_sem, y0, y1, y2, y3, y4, y5]) rfl ?_
          unfold ReadPost zscriptV
          exact ⟨fun _ => rfl, fun h => (by rw [HOK.out] at h; cases h), by rw [HQ.out]; exact HBL.out⟩
        | false =>
          by_cases hn9 : 0 < n9
          · have hok : rdOk bs = false := by
              unfold rdOk
              rw [HE9.out]
              have : r9.1.isEmpty = false := by
                cases hr : r9.1 with
                | nil => have := HN9.out.1; rw [hr] at this; simp at this; omega
                | cons x y => rfl
              simp [this]
            have HOK := Lib.hid hok
            have tn : decide (0 < n9) = true := by simp; omega
            clear hok hn9
            go_wp2
            clear y0 y1 y2 y3 y4 y5 z0 z1 z2 z3 z4 z5 c0 c1 c2 c3 c4 c5
            obtain ⟨W', hW', hbl, hblk, _⟩ := fin_set HR9.out (.int .i64 0) (.slice none 0 0) (.int .i64 0) (.int .i64 0) (.int .i64 0) (.slice none 0 0)
            rw [← hW', Exit.noGoto_ret]
            obtain ⟨y0, y1, y2, y3, y4, y5⟩ := script_cells hblk
            have HBL := Lib.hid hbl
            clear hW' hbl hblk
            refine bodyPost_ret (v := .tuple #[.agg #[.int .i64 0, .slice none 0 0, .int .i64 0, .int .i64 0, .int .i64 0, .slice none 0 0], .int .i64 11]) (by simp [results, Try.results16, go_sem, y0, y1, y2, y3, y4, y5]) rfl ?_
            unfold ReadPost zscriptV
            exact ⟨fun _ => rfl, fun h => (by rw [HOK.out] at h; cases h), by rw [HQ.out]; exact HBL.out⟩
          · have tn : decide (0 < n9) = false := by simp; omega
            have hemp : r9.1 = [] := List.eq_nil_of_length_eq_zero (by have := HN9.out.1; omega)
            have HEM := Lib.hid hemp
            clear hn9 hemp
            obtain ⟨hi, hhi⟩ : ∃ hi : Int, (sw : Int) / 9223372036854775808 = hi := ⟨_, rfl⟩
            by_cases hsw : sw < 9223372036854775808
            · have t63 : (hi == 0) = true := by rw [beq_iff_eq]; omega
              have t64 : (hi != 0) = false := by rw [bne_eq_false_iff_eq]; omega
              have hsv : sv = (sw : Int) := by rw [← HSV.out]; unfold wrap64; omega
              subst hsv
              have hzb : ∀ z ∈ toInts zs, -9223372036854775808 ≤ z ∧ z < 9223372036854775808 := by
                intro z hz
                unfold toInts at hz
                obtain ⟨y, hy, rfl⟩ := List.mem_map.1 hz
                have h1 : y ∈ (rtops (rdT0 bs).1 (rdT0 bs).2).1 := by
                  show y ∈ (rdT bs).1
                  rw [HK2.out.1]; exact hy
                have := rtops_le _ _ y h1
                omega
              have HZB := Lib.hid hzb
              have HCR := Lib.hid (cright_calls (a : Nat) AT nT cT (wd : Nat) (bk : Nat) (sw : Nat) (toInts zs) wc (own_isat HR9.out.ownT hzb))
              have hokc : rdOk bs = confB (a : Nat) (wd : Nat) (bk : Nat) (sw : Nat) (toInts zs) := by
                unfold rdOk
                rw [HE9.out, HB9.out, HEM.out, HK2.out.2.2.2.1, HK2.out.2.2.1, HK2.out.2.1, HK2.out.1, HK1.out.1]
                simp [hsw]
              obtain ⟨CF, hCF⟩ : ∃ C, confB (a : Nat) (wd : Nat) (bk : Nat) (sw : Nat) (toInts zs) = C := ⟨_, rfl⟩
              rw [hCF] at HCR hokc
              have HOK := Lib.hid hokc
              unfold confV at HCR
              clear hzb hokc hCF hsw HB9
              go_wp2_with fail
              refine HCR.out.mono ?_; rintro r w12 ⟨rfl, hb⟩
              have HR12 := Lib.hid (HR9.out.mem hb)
              clear hb c0 c1 c2 c3 c4 c5 y0 y1 y2 y3 y4 y5 z0 z1 z2 z3 z4 z5 HCR x0 x1
              obtain ⟨c0, c1, c2, c3, c4, c5⟩ := script_cells HR12.out.scr
              obtain ⟨y0, y1, y2, y3, y4, y5⟩ := script_cells HR12.out.res
              have z0 := HR12.out.res.free 0
              have z1 := HR12.out.res.free 1
              have z2 := HR12.out.res.free 2
              have z3 := HR12.out.res.free 3
              have z4 := HR12.out.res.free 4
              have z5 := HR12.out.res.free 5
              cases CF with
              | false =>
                go_wp2
                clear y0 y1 y2 y3 y4 y5 z0 z1 z2 z3 z4 z5 c0 c1 c2 c3 c4 c5
                obtain ⟨W', hW', hbl, hblk, _⟩ := fin_set HR12.out (.int .i64 0) (.slice none 0 0) (.int .i64 0) (.int .i64 0) (.int .i64 0) (.slice none 0 0)
                rw [← hW', Exit.noGoto_ret]
                obtain ⟨y0, y1, y2, y3, y4, y5⟩ := script_cells hblk
                have HBL := Lib.hid hbl
                clear hW' hbl hblk
                refine bodyPost_ret (v := .tuple #[.agg #[.int .i64 0, .slice none 0 0, .int .i64 0, .int .i64 0, .int .i64 0, .slice none 0 0], .int .i64 11]) (by simp [results, Try.results16, go_sem, y0, y1, y2, y3, y4, y5]) rfl ?_
                unfold ReadPost zscriptV
                exact ⟨fun _ => rfl, fun h => (by rw [HOK.out] at h; cases h), by rw [HQ.out]; exact HBL.out⟩
              | true =>
                go_wp2
                clear y0 y1 y2 y3 y4 y5 z0 z1 z2 z3 z4 z5 c0 c1 c2 c3 c4 c5
                obtain ⟨W', hW', hbl, hblk, hc'⟩ := fin_set HR12.out (.int .i64 (a : Nat)) (.slice AT nT cT) (.int .i64 (wd : Nat)) (.int .i64 (bk : Nat)) (.int .i64 (sw : Nat)) (.slice AE nE cE)
                rw [← hW', Exit.noGoto_ret]
                obtain ⟨y0, y1, y2, y3, y4, y5⟩ := script_cells hblk
                have hoT := own_chg' HR12.out.ownT hc' (fun j hj e => by have := (HR12.out.ownT.lt j hj).1; omega)
                have hoE := own_chg' HR12.out.ownE hc' (fun j hj e => by have := (HR12.out.ownE.lt j hj).1; omega)
                have HBL := Lib.hid (And.intro hbl (And.intro hoT hoE))
                clear hW' hbl hblk hc' hoT hoE
                refine bodyPost_ret (v := .tuple #[.agg #[.int .i64 (a : Nat), .slice AT nT cT, .int .i64 (wd : Nat), .int .i64 (bk : Nat), .int .i64 (sw : Nat), .slice AE nE cE], .int .i64 0]) (by simp [results, Try.results16, go_sem, y0, y1, y2, y3, y4, y5]) rfl ?_
                unfold ReadPost scriptV
                rw [HK1.out.1, HK2.out.2.1, HK2.out.2.2.1, HK2.out.2.2.2.1, HK2.out.1, HE9.out]
                exact ⟨fun h => (by rw [HOK.out] at h; cases h), fun _ => ⟨AT, nT, cT, AE, nE, cE, rfl, own_isat HBL.out.2.1 HZB.out, fun h => own_ensat HBL.out.2.2 h⟩, by rw [HQ.out]; exact HBL.out.1⟩
            · have t63 : (hi == 0) = false := by rw [beq_eq_false_iff_ne]; omega
              have t64 : (hi != 0) = true := by rw [bne_iff_ne]; omega
              have hok : rdOk bs = false := by
                unfold rdOk
                rw [HK2.out.2.2.2.1]
                simp [hsw]
              have HOK := Lib.hid hok
              clear hok hsw
              go_wp2
              clear y0 y1 y2 y3 y4 y5 z0 z1 z2 z3 z4 z5 c0 c1 c2 c3 c4 c5
              obtain ⟨W', hW', hbl, hblk, _⟩ := fin_set HR9.out (.int .i64 0) (.slice none 0 0) (.int .i64 0) (.int .i64 0) (.int .i64 0) (.slice none 0 0)
              rw [← hW', Exit.noGoto_ret]
              obtain ⟨y0, y1, y2, y3, y4, y5⟩ := script_cells hblk
              have HBL := Lib.hid hbl
              clear hW' hbl hblk
              refine bodyPost_ret (v := .tuple #[.agg #[.int .i64 0, .slice none 0 0, .int .i64 0, .int .i64 0, .int .i64 0, .slice none 0 0], .int .i64 11]) (by simp [results, Try.results16, go_sem, y0, y1, y2, y3, y4, y5]) rfl ?_
              unfold ReadPost zscriptV
              exact ⟨fun _ => rfl, fun h => (by rw [HOK.out] at h; cases h), by rw [HQ.out]; exact HBL.out⟩
    · obtain ⟨k, rfl⟩ : ∃ k, j = k + 1 := ⟨j - 1, by omega⟩
      obtain ⟨x, hx⟩ : ∃ x, (rsmall 2147483648 rr).1 = x := ⟨_, rfl⟩
      obtain ⟨r1, hr1⟩ : ∃ x, (rsmall 2147483648 rr).2 = x := ⟨_, rfl⟩
      have HCX := fun W => Lib.hid (fun h => rsmall_lit (q0 + 1) 2147483648 2147483648 (by rfl) rr W h (by decide))
      rw [hx, hr1] at HCX
      have HTX : Hid (rtops nt rt = ((zs ++ [x]) ++ (rtops k r1).1, (rtops k r1).2)) := Lib.hid (by
        rw [HTT.out, rtops_succ, hx, hr1]
        simp)
      have HED := Lib.hid HI.out.drew
      have d1 : wr.cell? ⟨q0 + 2, 1, none⟩ = some vT := (script_cells HI.out.scr).2.1
      clear hx hr1 h0
      go_upto_region 9 with fail
      go_region_law (first | (rw [if_pos (by kernel_rfl)]; go_simp; go_at_call 28; (refine ((HCX _).out HED.out.rd).mono ?_); rintro r w4 ⟨rfl, hr4, hc4⟩; have hs4 := HED.out.call hc4 hr4; obtain ⟨v5, w5, hrun, ho5, hg5, hb5⟩ := appT_run w4 (q0 + 3) vT (toInts zs) (x : Nat) hs4.ownT (by have := hs4.scr.lt; omega) (by rw [toInts_length]; omega); obtain ⟨A5, n5, k5, hv5⟩ := own_slice ho5; subst hv5; have hs5 := hs4.topics ho5 hg5 hb5; have e1 := (script_cells hs4.scr).2.1; have e2 := kalloc (.cells #[.int .i64 (x : Nat)] 3) e1; have f1 := (script_cells hs5.scr).2.1; have g1 := hs5.scr.free 1; have HS5 := Lib.hid hs5; clear hs4 ho5 hg5 hb5 hs5 hr4 hc4) | (rw [if_pos (by kernel_rfl)]; refine oper_append (.tmp 28) (.tmp 31) 22 rfl rfl rfl hrun ?_))
      all_goals
        have HS6 := Lib.hid (HS5.out.set 1 (.slice A5 n5 k5) (by simp))
        simp only [List.set_cons_succ, List.set_cons_zero] at HS6
        rw [← toInts1 zs x] at HS6
        clear HS5 e1 e2 f1 g1 hrun HED d1
        go_wp2
        go_roundg k
        case measure => omega
        case rel => exact ⟨k, zs ++ [x], r1, _, rfl, by first | rfl | go_num, HTX, by simp; omega, HS6⟩
end Go.Proofs.Ytgfingdopelinaa
