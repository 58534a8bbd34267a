/- contract of broker.Conf.Right. -/
import Derived.Test.YtgfingdopelinaaScC
import Derived.Deep.CutBlock
namespace Go.Proofs.Ytgfingdopelinaa
set_option linter.unusedSimpArgs false
set_option linter.unusedVariables false
open Go.RowKit Go.Deep

theorem block_calls (t : Int) (A : Option Addr) (n cap : Nat) (words blocks sweep : Int) (w : World) (h1 : 0 ≤ words) (h2 : words ≤ 8) :
    Calls Try.prog 36 #[confV t A n cap words blocks sweep] w fun e w' => (∃ r : Int, e = .returned (.int .i64 r) ∧ 0 ≤ r ∧ r ≤ 9) ∧ Below w.heap.size w w' := by
  unfold confV
  go_enter Try.func36, Try.ntmps36
  go_wp2
  go_ret
  exact ⟨⟨_, rfl, by omega, by omega⟩, bnew (Below.refl _ _) _⟩
theorem info_topic : (Try.prog.info? 73).map (fun i => (i.zero, i.size, i.bytes)) = some (some (.agg #[.int .i64 0, .int .i64 0, .int .i64 0]), 3, 24) := by kernel_rfl

set_option maxHeartbeats 2000000 in
theorem topics_calls (t : Int) (A : Option Addr) (n cap : Nat) (words blocks sweep : Int) (zs : List Int) (w : World) (h : IsAt w A n cap zs) (hb : boundedB t n words blocks zs = true) :
    Calls Try.prog 35 #[confV t A n cap words blocks sweep] w fun e w' => (∃ (v : Value) (r : Int), e = .returned (.tuple #[v, .int .i64 r]) ∧ 0 ≤ r ∧ r ≤ 20000) ∧ Below w.heap.size w w' := by
  unfold confV
  have hB : 1 ≤ t ∧ t ≤ 64 ∧ n ≤ 4 ∧ ∀ z ∈ zs, trB z words = true := by
    unfold boundedB at hb
    simp only [Bool.and_eq_true, inB_true, sizesB, List.all_eq_true] at hb
    exact ⟨by omega, by omega, by omega, hb.2⟩
  have HZ := Lib.hid hB.2.2.2
  obtain ⟨i0, hi, hz⟩ := Option.map_eq_some_iff.1 info_topic
  simp only [Prod.mk.injEq] at hz
  obtain ⟨hz0, hz1, hz2⟩ := hz
  have HI := Lib.hid hi; have HZ0 := Lib.hid hz0; have HZ1 := Lib.hid hz1; have HZ2 := Lib.hid hz2
  have hn4 := hB.2.2.1
  have ht1 := hB.1
  have ht2 := hB.2.1
  have H := Lib.hid h
  clear hB hb hi hz0 hz1 hz2 h
  go_enter Try.func35, Try.ntmps35
  go_upto_block 0 with fail
  have HW : Hid (Blk (w.alloc (.cells #[.int .i64 t, .slice A n cap, .int .i64 words, .int .i64 blocks, .int .i64 sweep] 24)) w.heap.size 24 [.int .i64 t, .slice A n cap, .int .i64 words, .int .i64 blocks, .int .i64 sweep]) := Lib.hid (Blk.new w _ [_, _, _, _, _])
  have HBW : Hid (Below w.heap.size w (w.alloc (.cells #[.int .i64 t, .slice A n cap, .int .i64 words, .int .i64 blocks, .int .i64 sweep] 24))) := Lib.hid (bnew (Below.refl _ _) _)
  generalize w.alloc (.cells #[.int .i64 t, .slice A n cap, .int .i64 words, .int .i64 blocks, .int .i64 sweep] 24) = w0 at HW HBW ⊢
  obtain ⟨sw, hsw⟩ : ∃ sw, w.heap.size = sw := ⟨_, rfl⟩
  rw [hsw] at HW HBW ⊢
  have HSW := Lib.hid hsw
  clear hsw
  go_wp2_with fail
  go_loopg [4, 5, 15] n (fun g v a i wr => ∃ (k : Nat) (x : Int) (xs : List Value), k ≤ n ∧ g = n - k ∧ i = .int .i64 k ∧ a = .int .i64 x ∧ 0 ≤ x ∧ x ≤ 128 + 2400 * (k : Int) ∧ Hid (wr.ownsRow (sw + 1) 73 3 v k xs ∧ Below sw w wr ∧ Blk wr sw 24 [.int .i64 t, .slice A n cap, .int .i64 words, .int .i64 blocks, .int .i64 sweep]))
  case atStart => exact ⟨0, _, [], by omega, rfl, rfl, rfl, by omega, by simp; omega, Lib.hid ⟨World.ownsRow_nil _ _ _ _, HBW.out, HW.out⟩⟩
  case round =>
    obtain ⟨k, x, xs, hk, rfl, rfl, rfl, hx0, hx1, HB⟩ := hrel
    by_cases hlt : k < n
    · obtain ⟨b, off, rfl, hcell⟩ := H.out.2.2.2.2 (by omega)
      have c0 := kcell (by rw [HSW.out]; exact HB.out.2.1) (hcell k hlt)
      obtain ⟨z, hz⟩ : ∃ z, zs.getD k 0 = z := ⟨_, rfl⟩
      rw [hz] at c0
      have ht : trB z words = true := HZ.out z (by
        rw [← hz, List.getD, List.getElem?_eq_getElem (by rw [H.out.1]; exact hlt)]
        exact List.getElem_mem _)
      have HT := Lib.hid ht
      have hz3 := trB_size ht
      have c2 : wr.cell? ⟨sw, 2, none⟩ = some (.int .i64 words) := HB.out.2.2.cell 2
      have HBL := Lib.hid (bnew (Below.refl wr.heap.size wr) (.cells #[.int .i64 x, .int .i64 z, .int .i64 words] 73))
      have HNB := Lib.hid (Blk.new wr 73 [.int .i64 x, .int .i64 z, .int .i64 words])
      clear hcell hz ht
      go_upto_region 7 with fail
      have HOW := Lib.hid (HB.out.1.alloc (.cells #[.int .i64 x, .int .i64 z, .int .i64 words] 73))
      have HCF := Lib.hid (HB.out.2.2.alloc (.cells #[.int .i64 x, .int .i64 z, .int .i64 words] 73))
      have HBB := Lib.hid (HB.out.2.1.alloc (by rw [← HSW.out]; have := HB.out.2.1.size; rw [HSW.out] at *; exact this) (.cells #[.int .i64 x, .int .i64 z, .int .i64 words] 73))
      have hsz : sw < wr.heap.size := HB.out.2.2.lt
      have hq : (wr.alloc (.cells #[.int .i64 x, .int .i64 z, .int .i64 words] 73)).heap.size = wr.heap.size + 1 := by simp
      have HQ := Lib.hid hq
      have HSZ := Lib.hid hsz
      clear hq hsz
      generalize wr.alloc (.cells #[.int .i64 x, .int .i64 z, .int .i64 words] 73) = wq at HNB HOW HCF HBB HQ ⊢
      have HLT : Hid (∀ j, u4.ownBlock = some j → sw + 1 ≤ j ∧ j < wr.heap.size) := Lib.hid HB.out.1.lt
      generalize wr.heap.size = sq at HNB HQ HSZ HBL HLT ⊢
      have d0 : wq.cell? ⟨sq, 0, none⟩ = some (.int .i64 x) := HNB.out.cell 0
      have d1 : wq.cell? ⟨sq, 1, none⟩ = some (.int .i64 z) := HNB.out.cell 1
      have d2 : wq.cell? ⟨sq, 2, none⟩ = some (.int .i64 words) := HNB.out.cell 2
      clear HB c0 c2
      go_wp2_with (at_builtin; (refine wpList_append_own_at _ rfl (.tmp 24) (.tmp 26) 75 rfl (sw + 1) 73 i0 (.agg #[.int .i64 0, .int .i64 0, .int .i64 0]) 3 24 Try.underlying75 HI.out HZ0.out HZ1.out HZ2.out rfl (by decide) _ k xs rfl (HOW.out.alloc _) ⟨wq.heap.size, 0, none⟩ 1 1 [.int .i64 x, .int .i64 z, .int .i64 words] rfl rfl ?c1 ?c2 ?c3 ?c4 ?c5 ?_))
      case c1 => intro j u hu; rw [add_none, Nat.zero_add, (Blk.new wq _ [_, _, _]).cell]; exact hu
      case c2 => intro u hu; simp at hu; rcases hu with rfl | rfl | rfl <;> rfl
      case c3 => simp [maxLen]; omega
      case c4 => omega
      case c5 => have := HQ.out; have := HSZ.out; simp; omega
      intro v' w1 hown hg _ _
      have hcg := ((Chg.refl (fun j => u4.ownBlock = some j) wq).alloc _).trans (own_chg hg) (fun _ _ h => h)
      have hn1 : ¬ u4.ownBlock = some sq := fun e => by have := (HLT.out _ e).2; omega
      have hn2 : ¬ u4.ownBlock = some sw := fun e => by have := (HLT.out _ e).1; omega
      have htb := HNB.out.chg hcg hn1
      have e0 : w1.cell? ⟨sq, 0, none⟩ = some (.int .i64 x) := htb.cell 0
      have e1 : w1.cell? ⟨sq, 1, none⟩ = some (.int .i64 z) := htb.cell 1
      have e2 : w1.cell? ⟨sq, 2, none⟩ = some (.int .i64 words) := htb.cell 2
      have HB2 : Hid (w1.ownsRow (sw + 1) 73 3 v' (k + 1) (xs ++ [.int .i64 x, .int .i64 z, .int .i64 words]) ∧ Below sw w w1 ∧ Blk w1 sw 24 [.int .i64 t, .slice (some ⟨b, off, none⟩) n cap, .int .i64 words, .int .i64 blocks, .int .i64 sweep]) := Lib.hid ⟨hown, hcg.below HBB.out (by have := HQ.out; have := HSZ.out; omega) (fun j hj => by have := (HLT.out _ hj).1; omega), HCF.out.chg hcg hn2⟩
      have HTL := fun w => Lib.hid (tlen_calls x z words w hx0 (by omega) HT.out)
      clear hown hg hcg hn1 hn2 htb d0 d1 d2 HOW HCF HBB HNB HLT HBL HSZ HQ
      go_wp2_with fail
      refine (HTL _).out.mono ?_; rintro e w2 ⟨rfl, hb2⟩
      have HB3 : Hid (w2.ownsRow (sw + 1) 73 3 v' (k + 1) (xs ++ [.int .i64 x, .int .i64 z, .int .i64 words]) ∧ Below sw w w2 ∧ Blk w2 sw 24 [.int .i64 t, .slice (some ⟨b, off, none⟩) n cap, .int .i64 words, .int .i64 blocks, .int .i64 sweep]) := Lib.hid ⟨HB2.out.1.kept (row := none) ⟨hb2.os, hb2.tape, hb2.output, hb2.size, fun j hj _ => hb2.block j hj⟩ (by cases v'.ownBlock <;> simp), HB2.out.2.1.trans (hb2.mono (Nat.le_of_lt HB2.out.2.2.lt)), HB2.out.2.2.chg (chg_of_below (fun _ => False) hb2) (fun h => h)⟩
      clear hb2 HB2 e0 e1 e2
      go_wp2
      go_roundg (n - (k + 1))
      case measure => omega
      case rel => exact ⟨k + 1, _, _, by omega, rfl, by go_num, rfl, by omega, by simp; omega, HB3⟩
    · obtain rfl : k = n := by omega
      clear hlt
      go_wp2
      go_ret2
      exact ⟨⟨_, _, rfl, by omega, by omega⟩, by rw [HSW.out]; exact HB.out.2.1⟩

theorem conf_cells {w : World} {b : Nat} {ty : TypeId} {v0 v1 v2 v3 v4 : Value} (h : Blk w b ty [v0, v1, v2, v3, v4]) : w.cell? ⟨b, 0, none⟩ = some v0 ∧ w.cell? ⟨b, 1, none⟩ = some v1 ∧ w.cell? ⟨b, 2, none⟩ = some v2 ∧ w.cell? ⟨b, 3, none⟩ = some v3 ∧ w.cell? ⟨b, 4, none⟩ = some v4 :=
  ⟨h.cell 0, h.cell 1, h.cell 2, h.cell 3, h.cell 4⟩
theorem conf_keep {w w' : World} {b : Nat} {v0 v1 v2 v3 v4 : Value} (h : w.cell? ⟨b, 0, none⟩ = some v0 ∧ w.cell? ⟨b, 1, none⟩ = some v1 ∧ w.cell? ⟨b, 2, none⟩ = some v2 ∧ w.cell? ⟨b, 3, none⟩ = some v3 ∧ w.cell? ⟨b, 4, none⟩ = some v4) (hb : Below w.heap.size w w') :
    w'.cell? ⟨b, 0, none⟩ = some v0 ∧ w'.cell? ⟨b, 1, none⟩ = some v1 ∧ w'.cell? ⟨b, 2, none⟩ = some v2 ∧ w'.cell? ⟨b, 3, none⟩ = some v3 ∧ w'.cell? ⟨b, 4, none⟩ = some v4 :=
  ⟨kcell hb h.1, kcell hb h.2.1, kcell hb h.2.2.1, kcell hb h.2.2.2.1, kcell hb h.2.2.2.2⟩
set_option maxHeartbeats 2000000 in
theorem clen_calls (t : Int) (A : Option Addr) (n cap : Nat) (words blocks sweep : Int) (zs : List Int) (w : World) (h : IsAt w A n cap zs) (hb : boundedB t n words blocks zs = true) :
    Calls Try.prog 23 #[confV t A n cap words blocks sweep] w fun e w' => (∃ r : Int, e = .returned (.int .i64 r) ∧ 0 ≤ r ∧ r ≤ 65536) ∧ Below w.heap.size w w' := by
  have hB : 2 ≤ words ∧ words ≤ 8 ∧ 1 ≤ blocks ∧ blocks ≤ 1024 := by
    unfold boundedB at hb
    simp only [Bool.and_eq_true, inB_true] at hb
    omega
  have HBO := Lib.hid (fun W (hW : Below w.heap.size w W) => bounded_calls t A n cap words blocks sweep zs W (h.below hW))
  have HTO := Lib.hid (fun W (hW : Below w.heap.size w W) => topics_calls t A n cap words blocks sweep zs W (h.below hW) hb)
  have HBL := fun W => Lib.hid (block_calls t A n cap words blocks sweep W (by omega) (by omega))
  simp only [hb] at HBO
  have HW : Hid (Blk (w.alloc (.cells #[.int .i64 t, .slice A n cap, .int .i64 words, .int .i64 blocks, .int .i64 sweep] 24)) w.heap.size 24 [.int .i64 t, .slice A n cap, .int .i64 words, .int .i64 blocks, .int .i64 sweep]) := Lib.hid (Blk.new w _ [_, _, _, _, _])
  have HBW : Hid (Below w.heap.size w (w.alloc (.cells #[.int .i64 t, .slice A n cap, .int .i64 words, .int .i64 blocks, .int .i64 sweep] 24))) := Lib.hid (bnew (Below.refl _ _) _)
  clear h hb
  unfold confV at *
  go_enter Try.func23, Try.ntmps23
  go_wp2_with fail
  refine (HBO.out _ HBW.out).mono ?_; rintro e w1 ⟨rfl, hb⟩
  have HB1 := Lib.hid (bseq HBW.out hb)
  have HK1 := Lib.hid (HW.out.chg (chg_of_below (fun _ => False) hb) (fun h => h))
  obtain ⟨d0, d1, d2, d3, d4⟩ := conf_cells HK1.out
  clear hb
  go_wp2_with fail
  refine (HTO.out _ HB1.out).mono ?_; rintro e w2 ⟨⟨v, r, rfl, hr0, hr1⟩, hb⟩
  have HB2 := Lib.hid (bseq HB1.out hb)
  have HK2 := Lib.hid (conf_cells (HK1.out.chg (chg_of_below (fun _ => False) hb) (fun h => h)))
  obtain ⟨f0, f1, f2, f3, f4⟩ := HK2.out
  clear hb d0 d1 d2 d3 d4
  go_wp2_with fail
  go_region_held3 (fun W => W.cell? ⟨w.heap.size, 0, none⟩ = some (.int .i64 t) ∧ W.cell? ⟨w.heap.size, 1, none⟩ = some (.slice A n cap) ∧ W.cell? ⟨w.heap.size, 2, none⟩ = some (.int .i64 words) ∧ W.cell? ⟨w.heap.size, 3, none⟩ = some (.int .i64 blocks) ∧ W.cell? ⟨w.heap.size, 4, none⟩ = some (.int .i64 sweep)) (first | exact HK2.out | exact conf_keep (by assumption) (by assumption) | assumption) (first | (go_at_call 36; refine (HBL _).out.mono ?_; rintro e w3 ⟨⟨q, rfl, hq0, hq1⟩, hb3⟩))
  rename_i hh
  have m0 : 0 ≤ blocks * q := Int.mul_nonneg (by omega) hq0
  have m1 : blocks * q ≤ 1024 * 9 := Int.mul_le_mul hB.2.2.2 hq1 hq0 (by decide)
  have HB3 := Lib.hid (bseq (HB2.out.trans (Below.refl _ _).drew) hb3)
  clear hh hb3 f0 f1 f2 f3 f4
  generalize blocks * q = m at m0 m1 ⊢
  go_wp2
  go_ret
  exact ⟨⟨_, rfl, by simp only [IntKind.wrap_i64]; omega, by simp only [IntKind.wrap_i64]; omega⟩, HB3.out⟩

/-- whether a conf may be. -/
def confB (t : Int) (words blocks sweep : Int) (zs : List Int) : Bool := boundedB t zs.length words blocks zs && decide (1 ≤ sweep)
set_option maxHeartbeats 2000000 in
theorem cright_calls (t : Int) (A : Option Addr) (n cap : Nat) (words blocks sweep : Int) (zs : List Int) (w : World) (h : IsAt w A n cap zs) :
    Calls Try.prog 7 #[confV t A n cap words blocks sweep] w fun e w' => e = .returned (.bool (confB t words blocks sweep zs)) ∧ Below w.heap.size w w' := by
  have HBO := Lib.hid (fun W (hW : Below w.heap.size w W) => bounded_calls t A n cap words blocks sweep zs W (h.below hW))
  have HLE := Lib.hid (fun W (hW : Below w.heap.size w W) hb => clen_calls t A n cap words blocks sweep zs W (h.below hW) hb)
  have HW : Hid (Blk (w.alloc (.cells #[.int .i64 t, .slice A n cap, .int .i64 words, .int .i64 blocks, .int .i64 sweep] 24)) w.heap.size 24 [.int .i64 t, .slice A n cap, .int .i64 words, .int .i64 blocks, .int .i64 sweep]) := Lib.hid (Blk.new w _ [_, _, _, _, _])
  have HBW : Hid (Below w.heap.size w (w.alloc (.cells #[.int .i64 t, .slice A n cap, .int .i64 words, .int .i64 blocks, .int .i64 sweep] 24))) := Lib.hid (bnew (Below.refl _ _) _)
  have hlen : zs.length = n := h.1
  unfold confB
  rw [hlen]
  clear h hlen
  unfold confV at *
  by_cases hb : boundedB t n words blocks zs = true
  · simp only [hb] at HBO ⊢
    have HBT := Lib.hid hb
    clear hb
    by_cases hs : 1 ≤ sweep
    · have t1 : decide (1 ≤ sweep) = true := by simp; omega
      rw [t1]
      clear hs
      go_enter Try.func7, Try.ntmps7
      go_wp2_with fail
      refine (HBO.out _ HBW.out).mono ?_; rintro e w1 ⟨rfl, hb⟩
      have HB1 := Lib.hid (bseq HBW.out hb)
      have HK1 := Lib.hid (HW.out.chg (chg_of_below (fun _ => False) hb) (fun h => h))
      obtain ⟨d0, d1, d2, d3, d4⟩ := conf_cells HK1.out
      clear hb
      go_wp2_with fail
      refine (HLE.out _ HB1.out HBT.out).mono ?_; rintro e w2 ⟨⟨r, rfl, hr0, hr1⟩, hb⟩
      have HB2 := Lib.hid (bseq HB1.out hb)
      clear hb d0 d1 d2 d3 d4
      go_wp2
      go_ret
      exact ⟨rfl, HB2.out⟩
    · have t1 : decide (1 ≤ sweep) = false := by simp; omega
      rw [t1]
      clear hs
      go_enter Try.func7, Try.ntmps7
      go_wp2_with fail
      refine (HBO.out _ HBW.out).mono ?_; rintro e w1 ⟨rfl, hb⟩
      have HB1 := Lib.hid (bseq HBW.out hb)
      have HK1 := Lib.hid (HW.out.chg (chg_of_below (fun _ => False) hb) (fun h => h))
      obtain ⟨d0, d1, d2, d3, d4⟩ := conf_cells HK1.out
      clear hb
      go_wp2
      go_ret
      exact ⟨rfl, HB1.out⟩
  · have hbf : boundedB t n words blocks zs = false := by simpa using hb
    simp only [hbf] at HBO ⊢
    clear hb hbf HLE
    go_enter Try.func7, Try.ntmps7
    go_wp2_with fail
    refine (HBO.out _ HBW.out).mono ?_; rintro e w1 ⟨rfl, hb⟩
    have HB1 := Lib.hid (bseq HBW.out hb)
    clear hb
    go_wp2
    go_ret
    exact ⟨rfl, HB1.out⟩
end Go.Proofs.Ytgfingdopelinaa
