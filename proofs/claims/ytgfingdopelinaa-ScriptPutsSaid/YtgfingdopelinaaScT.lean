/- contract of Put: a script that may be. -/
import Derived.Test.YtgfingdopelinaaScS
namespace Go.Proofs.Ytgfingdopelinaa
set_option linter.unusedSimpArgs false
set_option linter.unusedVariables false
open Go.RowKit Go.Deep

theorem own_mono {w : World} {base b' : Nat} {e : TypeId} {v : Value} {n size : Nat} {xs : List Value} (h : w.ownsRow base e size v n xs) (hb : b' ≤ base) : w.ownsRow b' e size v n xs := by
  refine ⟨h.1, ?_⟩
  rcases h.2 with h0 | ⟨g, cap, cur, rfl, h1, h2⟩
  · exact .inl h0
  · exact .inr ⟨g, cap, cur, rfl, Nat.le_trans hb h1, h2⟩
theorem putL_app (a b : List Nat) : putL (a ++ b) = putL a ++ putL b := by unfold putL; rw [List.flatMap_append]
theorem putL_take_le (l : List Nat) (k : Nat) : (putL (l.take k)).length ≤ (putL l).length := by
  conv => rhs; rw [← List.take_append_drop k l]
  rw [putL_app, List.length_append]
  omega
theorem flat_take_le {α : Type} (f : α → List Nat) (l : List α) (k : Nat) : ((l.take k).flatMap f).length ≤ (l.flatMap f).length := by
  conv => rhs; rw [← List.take_append_drop k l]
  rw [List.flatMap_append, List.length_append]
  omega
theorem flat_take {α : Type} (f : α → List Nat) (l : List α) (k : Nat) (hk : k < l.length) : (l.take (k + 1)).flatMap f = (l.take k).flatMap f ++ f l[k] := by
  rw [List.take_succ_eq_append_getElem hk, List.flatMap_append]
  simp
theorem confB_bounds {t words blocks sweep : Int} {zs : List Int} (h : confB t words blocks sweep zs = true) :
    (1 ≤ t ∧ t ≤ 64) ∧ (1 ≤ zs.length ∧ zs.length ≤ 4) ∧ (2 ≤ words ∧ words ≤ 8) ∧ (1 ≤ blocks ∧ blocks ≤ 1024) ∧ 1 ≤ sweep ∧ ∀ z ∈ zs, 1 ≤ z ∧ z ≤ 256 := by
  unfold confB boundedB at h
  simp only [Bool.and_eq_true, inB_true, decide_eq_true_eq, sizesB, List.all_eq_true] at h
  refine ⟨h.1.1.1.1.1, by omega, h.1.1.1.2, h.1.1.2, h.2, fun z hz => ?_⟩
  have := trB_size (h.1.2 z hz)
  omega
set_option maxRecDepth 100000 in
set_option maxHeartbeats 8000000 in
theorem sput_ok (t : Int) (A : Option Addr) (n cap : Nat) (words blocks sweep : Int) (E : Option Addr) (m mcap : Nat) (zs : List Int) (es : List En) (w : World) (hz : IsAt w A n cap zs) (he : EnsAt w E m mcap es) (hc : confB t words blocks sweep zs = true) (hr : es.all En.rightB = true) (hm : m ≤ 65536) (hsw : sweep < 9223372036854775808) (hlen : (putS t words blocks sweep zs es).length ≤ 1048576) :
    Calls Try.prog 13 #[scriptV t A n cap words blocks sweep E m mcap] w fun r w' => ∃ v, r = .returned (.tuple #[v, .int .i64 0]) ∧ w'.ownsRow w.heap.size 5 1 v (putS t words blocks sweep zs es).length (u8s (putS t words blocks sweep zs es)) ∧ Below w.heap.size w w' := by
  have hcb := confB_bounds hc
  obtain ⟨a, rfl⟩ : ∃ a : Nat, t = a := ⟨t.toNat, by omega⟩
  obtain ⟨wd, rfl⟩ : ∃ a : Nat, words = a := ⟨words.toNat, by omega⟩
  obtain ⟨bk, rfl⟩ : ∃ a : Nat, blocks = a := ⟨blocks.toNat, by omega⟩
  obtain ⟨sp, rfl⟩ : ∃ a : Nat, sweep = a := ⟨sweep.toNat, by omega⟩
  have ha64 : a ≤ 64 := by omega
  have hwd8 : wd ≤ 8 := by omega
  have hbk : bk ≤ 1024 := by omega
  have hn4 : n ≤ 4 := by have := hz.1; omega
  have HCO := Lib.hid hcb.2.2.2.2.2
  have HSP : Hid (sp < 9223372036854775808) := Lib.hid (by omega)
  have HM := Lib.hid hm
  have HZ := Lib.hid hz
  have HE := Lib.hid he
  have HR : Hid (∀ e ∈ es, e.rightB = true) := Lib.hid (by rw [List.all_eq_true] at hr; exact hr)
  have HC := Lib.hid (fun W (hW : Below w.heap.size w W) => cright_calls (a : Nat) A n cap (wd : Nat) (bk : Nat) (sp : Nat) zs W (hz.below hW))
  simp only [hc] at HC
  obtain ⟨P, hP⟩ : ∃ P, putL [a, n] = P := ⟨_, rfl⟩
  obtain ⟨Z, hZ⟩ : ∃ Z, Z = putL (zs.map Int.toNat) := ⟨_, rfl⟩
  obtain ⟨Q, hQ⟩ : ∃ Q, Q = putL [wd, bk, sp, m] := ⟨_, rfl⟩
  have hput : putS (a : Nat) (wd : Nat) (bk : Nat) (sp : Nat) zs es = P ++ Z ++ Q ++ es.flatMap (fun e => putE e.clean) := by
    unfold putS
    rw [hz.1, he.1, hZ, hQ, ← hP]
    rfl
  have HPUT := Lib.hid hput
  have HT : Hid ((P ++ Z ++ Q ++ es.flatMap (fun e => putE e.clean)).length ≤ 1048576) := Lib.hid (by rw [← hput]; exact hlen)
  have HT0 : Hid (1 ≤ (P ++ Z ++ Q ++ es.flatMap (fun e => putE e.clean)).length) := Lib.hid (by
    have h1 := putN_pos a
    rw [← hP]
    simp only [List.length_append, putL, List.flatMap_cons]
    omega)
  have HPP := Lib.hid hP
  have HZZ := Lib.hid hZ
  have HQQ0 := Lib.hid hQ
  have tm : decide ((65536 : Int) < (m : Int)) = false := by simp; omega
  have hm64 : m ≤ 9223372036854775807 := by omega
  clear hz he hc hr hm hsw hlen hcb hP hZ hQ hput
  unfold scriptV
  unfold confV at HC
  go_enter Try.func13, Try.ntmps13
  go_wp2_with fail
  refine (HC.out _ (bnew (Below.refl _ _) _)).mono ?_; rintro r w1 ⟨rfl, hb⟩
  have HB := Lib.hid (bseq (bnew (Below.refl _ _) _) hb)
  have hbl := (Blk.new w 46 [.int .i64 (a : Nat), .slice A n cap, .int .i64 (wd : Nat), .int .i64 (bk : Nat), .int .i64 (sp : Nat), .slice E m mcap]).chg (chg_of_below (fun _ => False) hb) (fun h => h)
  have HBL0 := Lib.hid hbl
  obtain ⟨c0, c1, c2, c3, c4, c5⟩ := script_cells hbl
  clear hb hbl HC
  go_wp2_with fail
  go_loopg [19] m (fun g i wr => ∃ k : Nat, k ≤ m ∧ g = m - k ∧ i = .int .i64 k ∧ Hid (Below w.heap.size w wr ∧ Blk wr w.heap.size 46 [.int .i64 (a : Nat), .slice A n cap, .int .i64 (wd : Nat), .int .i64 (bk : Nat), .int .i64 (sp : Nat), .slice E m mcap]))
  case atStart => exact ⟨0, by omega, rfl, rfl, Lib.hid ⟨HB.out, HBL0.out⟩⟩
  case round =>
    obtain ⟨k, hk, rfl, rfl, HI⟩ := hrel
    clear HB HBL0 c0 c1 c2 c3 c4 c5
    by_cases hlt : k < m
    · obtain ⟨e, hek⟩ : ∃ e, es.getD k enZero = e := ⟨_, rfl⟩
      obtain ⟨b, off, rfl, d0, d1, d2, d3, d4, d5, d6, d7, d8⟩ := (HE.out.below HI.out.1).cells hlt hek
      have hem : e ∈ es := by
        rw [← hek, List.getD, List.getElem?_eq_getElem (by rw [HE.out.1]; exact hlt)]
        exact List.getElem_mem _
      have HRC := fun W => Lib.hid (eright_calls e W)
      simp only [HR.out e hem] at HRC
      clear hek hem
      obtain ⟨th, pk, kd, tp, gk, gn, md, tx, ps⟩ := e
      unfold En.val at HRC
      dsimp only at HRC d0 d1 d2 d3 d4 d5 d6 d7 d8
      go_wp2_with fail
      refine (HRC _).out.mono ?_; rintro r w2 ⟨rfl, hb2⟩
      have HB2 : Hid (Below w.heap.size w w2 ∧ Blk w2 w.heap.size 46 [.int .i64 (a : Nat), .slice A n cap, .int .i64 (wd : Nat), .int .i64 (bk : Nat), .int .i64 (sp : Nat), .slice (some ⟨b, off, none⟩) m mcap]) := Lib.hid ⟨bseq (bseq HI.out.1 (bnew (Below.refl _ _) _)) hb2, (HI.out.2.alloc _).chg (chg_of_below (fun _ => False) hb2) (fun h => h)⟩
      clear hb2 d0 d1 d2 d3 d4 d5 d6 d7 d8
      go_wp2
      go_roundg (m - (k + 1))
      case measure => omega
      case rel => exact ⟨k + 1, by omega, rfl, by go_num, HB2⟩
    · obtain rfl : m = k := by omega
      clear hlt
      obtain ⟨c0, c1, c2, c3, c4, c5⟩ := script_cells HI.out.2
      go_upto_region 12 with fail
      have HCF := Lib.hid (Blk.new wr 24 [.int .i64 (a : Nat), .slice A n cap, .int .i64 (wd : Nat), .int .i64 (bk : Nat), .int .i64 (sp : Nat)])
      have HBL := Lib.hid (HI.out.2.alloc (.cells #[.int .i64 (a : Nat), .slice A n cap, .int .i64 (wd : Nat), .int .i64 (bk : Nat), .int .i64 (sp : Nat)] 24))
      have HWB := Lib.hid (bseq HI.out.1 (bnew (Below.refl wr.heap.size wr) (.cells #[.int .i64 (a : Nat), .slice A n cap, .int .i64 (wd : Nat), .int .i64 (bk : Nat), .int .i64 (sp : Nat)] 24)))
      have hcb : w.heap.size < wr.heap.size ∧ (wr.alloc (.cells #[.int .i64 (a : Nat), .slice A n cap, .int .i64 (wd : Nat), .int .i64 (bk : Nat), .int .i64 (sp : Nat)] 24)).heap.size = wr.heap.size + 1 := ⟨HI.out.2.lt, by simp⟩
      generalize wr.alloc (.cells #[.int .i64 (a : Nat), .slice A n cap, .int .i64 (wd : Nat), .int .i64 (bk : Nat), .int .i64 (sp : Nat)] 24) = wB at HCF HBL HWB hcb ⊢
      generalize wr.heap.size = cb at HCF hcb ⊢
      have HCB := Lib.hid hcb
      clear hcb c0 c1 c2 c3 c4 c5 HI
      obtain ⟨c0, c1, c2, c3, c4, c5⟩ := script_cells HBL.out
      obtain ⟨f0, f1, f2, f3, f4⟩ := conf_cells HCF.out
      go_wp2_with fail
      refine (put_new (cb + 1) (.slice none 0 0) [] [a, n] wB (World.ownsRow_nil _ _ _ _) (by have := HCB.out; omega) (by intro x hx; simp at hx; omega) (by simp) _ 2 (by simp [u64s]) rfl).mono ?_; rintro r w2 ⟨v2, rfl, hb2⟩
      have HP : Hid (BRow wB w2 (cb + 1) (.slice none 0 0) v2 P) := Lib.hid (by rw [← HPP.out]; exact hb2)
      have hc2 := hb2.chg
      have HB2 := Lib.hid (HBL.out.chg hc2 (fun e => by cases e))
      have HC2 := Lib.hid (HCF.out.chg hc2 (fun e => by cases e))
      clear hb2 hc2 c0 c1 c2 c3 c4 c5 f0 f1 f2 f3 f4
      obtain ⟨c0, c1, c2, c3, c4, c5⟩ := script_cells HB2.out
      obtain ⟨f0, f1, f2, f3, f4⟩ := conf_cells HC2.out
      clear HB2 HC2
      go_wp2_with fail
      go_loopg [7, 45] n (fun g v i wr => ∃ k : Nat, k ≤ n ∧ g = n - k ∧ i = .int .i64 k ∧ Hid (BRow wB wr (cb + 1) (.slice none 0 0) v (P ++ putL ((zs.map Int.toNat).take k))))
      case atStart => exact ⟨0, by omega, rfl, rfl, Lib.hid (by simpa [putL] using HP.out)⟩
      case round =>
        clear HP c0 c1 c2 c3 c4 c5 f0 f1 f2 f3 f4
        obtain ⟨k, hk, rfl, rfl, HI⟩ := hrel
        by_cases hlt : k < n
        · have hBW : Below w.heap.size w wr := HI.out.chg.below HWB.out (by have := HCB.out; omega) (fun j hj => by cases hj)
          obtain ⟨b, off, rfl, hcell⟩ := HZ.out.2.2.2.2 (by omega)
          have d0 := kcell hBW (hcell k hlt)
          have hkl : k < zs.length := by rw [HZ.out.1]; exact hlt
          have hzk : zs.getD k 0 = zs[k] := by rw [List.getD, List.getElem?_eq_getElem hkl]; rfl
          have hzb := HCO.out zs[k] (List.getElem_mem hkl)
          obtain ⟨z, hz⟩ : ∃ z : Nat, zs[k] = z := ⟨zs[k].toNat, by omega⟩
          rw [hzk, hz] at d0
          have hz256 : z ≤ 256 := by omega
          have hpt := putL_take (zs.map Int.toNat) k (by simpa using hkl)
          have hzn : (zs.map Int.toNat)[k]'(by simpa using hkl) = z := by rw [List.getElem_map, hz]; rfl
          rw [hzn] at hpt
          have HPT := Lib.hid hpt
          clear hBW hcell hkl hzk hzb hz hpt hzn
          go_wp2_with fail
          refine (put_new (cb + 1) u7 (P ++ putL ((zs.map Int.toNat).take k)) [z] wr HI.out.own (by have := HI.out.chg.size; have := HCB.out; omega) (by intro x hx; simp at hx; omega) (by
            have h1 := putL_take_le (zs.map Int.toNat) k
            have h2 := HT.out
            have h3 : Z = putL (zs.map Int.toNat) := HZZ.out
            rw [h3] at h2
            simp only [List.length_append] at h2 ⊢
            simp
            omega) _ 1 (by simp [u64s]) rfl).mono ?_; rintro r w2 ⟨v2, rfl, hb2⟩
          have HB2 : Hid (BRow wB w2 (cb + 1) (.slice none 0 0) v2 (P ++ putL ((zs.map Int.toNat).take (k + 1)))) := Lib.hid (by
            rw [HPT.out, ← List.append_assoc]
            have h := HI.out.trans hb2
            simpa [putL] using h)
          clear hb2 d0 HPT
          go_wp2
          go_roundg (n - (k + 1))
          case measure => omega
          case rel => exact ⟨k + 1, by omega, rfl, by go_num, HB2⟩
        · obtain rfl : n = k := by omega
          clear hlt
          have h1 := HI.out
          rw [List.take_of_length_le (by rw [List.length_map, HZ.out.1]; exact Nat.le_refl _), ← HZZ.out] at h1
          have HI1 := Lib.hid h1
          have HB1 := Lib.hid (HBL.out.chg h1.chg (fun e => by cases e))
          have HC1 := Lib.hid (HCF.out.chg h1.chg (fun e => by cases e))
          obtain ⟨c0, c1, c2, c3, c4, c5⟩ := script_cells HB1.out
          obtain ⟨f0, f1, f2, f3, f4⟩ := conf_cells HC1.out
          have sp64 : (sp : Int) < 9223372036854775808 := by have := HSP.out; omega
          clear h1 HI
          go_wp2_with fail
          refine (put_new (cb + 1) u7 (P ++ Z) [wd, bk, sp, m] wr HI1.out.own (by have := HI1.out.chg.size; have := HCB.out; omega) (by intro x hx; simp at hx; have := HSP.out; have := HM.out; omega) (by
            have h2 := HT.out
            simp only [List.length_append] at h2 ⊢
            simp
            omega) _ 4 (by simp [u64s]) rfl).mono ?_; rintro r w2 ⟨v2, rfl, hb2⟩
          have HQ : Hid (BRow wB w2 (cb + 1) (.slice none 0 0) v2 (P ++ Z ++ Q)) := Lib.hid (by rw [HQQ0.out]; exact HI1.out.trans hb2)
          have hc2 := HQ.out.chg
          have HB2 := Lib.hid (HBL.out.chg hc2 (fun e => by cases e))
          have HC2 := Lib.hid (HCF.out.chg hc2 (fun e => by cases e))
          clear hb2 hc2 c0 c1 c2 c3 c4 c5 f0 f1 f2 f3 f4 HI1 HB1 HC1
          obtain ⟨c0, c1, c2, c3, c4, c5⟩ := script_cells HB2.out
          obtain ⟨f0, f1, f2, f3, f4⟩ := conf_cells HC2.out
          clear HB2 HC2
          go_wp2_with fail
          go_loopg [7, 74] m (fun g v i wr => ∃ k : Nat, k ≤ m ∧ g = m - k ∧ i = .int .i64 k ∧ Hid (BRow wB wr (cb + 1) (.slice none 0 0) v (P ++ Z ++ Q ++ (es.take k).flatMap (fun e => putE e.clean))))
          case atStart => exact ⟨0, by omega, rfl, rfl, Lib.hid (by simpa using HQ.out)⟩
          case round =>
            clear HQ c0 c1 c2 c3 c4 c5 f0 f1 f2 f3 f4
            obtain ⟨k, hk, rfl, rfl, HI⟩ := hrel
            by_cases hlt : k < m
            · obtain ⟨e, hek⟩ : ∃ e, es.getD k enZero = e := ⟨_, rfl⟩
              have hBW : Below w.heap.size w wr := HI.out.chg.below HWB.out (by have := HCB.out; omega) (fun j hj => by cases hj)
              obtain ⟨b, off, rfl, d0, d1, d2, d3, d4, d5, d6, d7, d8⟩ := (HE.out.below hBW).cells hlt hek
              have hkl : k < es.length := by rw [HE.out.1]; exact hlt
              have hee : es[k] = e := by rw [← hek, List.getD, List.getElem?_eq_getElem hkl]; rfl
              have hft := flat_take (fun e => putE e.clean) es k hkl
              rw [hee] at hft
              have hem : e ∈ es := by rw [← hee]; exact List.getElem_mem hkl
              have HLY := Lib.hid (lay_calls e (cb + 1) u7 (P ++ Z ++ Q ++ (es.take k).flatMap (fun e => putE e.clean)) (wr.alloc (.cells #[.int .i64 e.thread, .bool e.pick, .int .i64 e.kind, .int .i64 e.topic, .int .i64 e.gk, .int .u64 e.gen, .int .i64 e.mode, .string e.text, .int .u64 e.pos] 34)) (HR.out e hem) (HE.out.2.2.2.1 e hem).1 (HE.out.2.2.2.1 e hem).2 (HI.out.own.alloc _) (by have := HI.out.chg.size; have := HCB.out; simp; omega) (by
                have h1 := flat_take_le (fun e => putE e.clean) es k
                have h2 := HT.out
                simp only [List.length_append] at h2 ⊢
                omega))
              have HFT := Lib.hid hft
              clear hek hBW hkl hee hft hem
              obtain ⟨th, pk, kd, tp, gk, gn, md, tx, ps⟩ := e
              unfold En.val at HLY
              dsimp only at HLY d0 d1 d2 d3 d4 d5 d6 d7 d8
              go_wp2_with fail
              refine HLY.out.mono ?_; rintro r w2 ⟨v2, rfl, hb2⟩
              have HB2 : Hid (BRow wB w2 (cb + 1) (.slice none 0 0) v2 (P ++ Z ++ Q ++ (es.take (k + 1)).flatMap (fun e => putE e.clean))) := Lib.hid (by
                rw [HFT.out, ← List.append_assoc]
                exact HI.out.trans (hb2.from (bnew (Below.refl _ _) _)))
              clear hb2 d0 d1 d2 d3 d4 d5 d6 d7 d8 HFT HLY
              go_wp2
              go_roundg (m - (k + 1))
              case measure => omega
              case rel => exact ⟨k + 1, by omega, rfl, by go_num, HB2⟩
            · obtain rfl : m = k := by omega
              clear hlt
              have hfin := HI.out
              rw [List.take_of_length_le (by rw [HE.out.1]; exact Nat.le_refl _)] at hfin
              have hown := hfin.own
              rcases hown.2 with ⟨h0, h00⟩ | ⟨gq, capq, curq, hu, _⟩
              · exfalso
                have h3 := HT0.out
                rw [h00] at h3
                omega
              · rw [hu] at hfin ⊢
                obtain ⟨q, hq⟩ : ∃ q, (P ++ Z ++ Q ++ es.flatMap (fun e => putE e.clean)).length = q := ⟨_, rfl⟩
                have hql : q ≤ 1048576 := by rw [← hq]; exact HT.out
                rw [hq] at hfin ⊢
                have tq : decide ((1048576 : Int) < (q : Int)) = false := by simp; omega
                have HF := Lib.hid hfin
                have HQQ := Lib.hid hq
                clear hfin hown hu hq HI hql
                go_wp2
                go_ret2
                refine ⟨_, rfl, ?_, HF.out.chg.below HWB.out (by have := HCB.out; omega) (fun j hj => by cases hj)⟩
                rw [HPUT.out]
                exact own_mono HF.out.own (by have := HCB.out; omega)
end Go.Proofs.Ytgfingdopelinaa
