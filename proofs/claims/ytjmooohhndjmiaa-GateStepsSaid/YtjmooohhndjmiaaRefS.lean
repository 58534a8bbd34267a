/- the reference's memory (sluicewayref02): Step, one kind each. (Printed by genref.py.) -/
import Derived.Test.YtjmooohhndjmiaaRefM
import Derived.Deep.Cut
namespace Go.Proofs.Ytjmooohhndjmiaa
open Go.RowKit Go.Deep

theorem own_blk {w : World} {base : Nat} {e : TypeId} {v : Value} {n : Nat} {xs : List Value} (hn : 0 < n) (h : w.ownsRow base e 1 v n xs) :
    ∃ g c rest, v = .slice (some ⟨g, 0, none⟩) n c ∧ base ≤ g ∧ n ≤ c ∧ Blk w g e (xs ++ rest) := by
  rcases h.2 with ⟨_, h0⟩ | ⟨g, cap, cur, rfl, hb, hh, hc, hm, hs, ht⟩
  · omega
  · refine ⟨g, cap, cur.toList.drop (n * 1), rfl, hb, hc, ?_⟩
    unfold Blk
    rw [← ht, List.take_append_drop]
    exact hh
theorem set10 {w : World} {b : Nat} {t : TypeId} {u0 u1 u2 u3 u4 u5 u6 u7 u8 u9 : Value} (h : Blk w b t [u0, u1, u2, u3, u4, u5, u6, u7, u8, u9]) (v0 v1 v2 v3 v4 v5 v6 v7 v8 v9 : Value) :
    Blk ((((((((((w.setCell ⟨b, 0, none⟩ v0).setCell ⟨b, 1, none⟩ v1).setCell ⟨b, 2, none⟩ v2).setCell ⟨b, 3, none⟩ v3).setCell ⟨b, 4, none⟩ v4).setCell ⟨b, 5, none⟩ v5).setCell ⟨b, 6, none⟩ v6).setCell ⟨b, 7, none⟩ v7).setCell ⟨b, 8, none⟩ v8).setCell ⟨b, 9, none⟩ v9) b t [v0, v1, v2, v3, v4, v5, v6, v7, v8, v9] ∧ Chg (fun j => j = b) w ((((((((((w.setCell ⟨b, 0, none⟩ v0).setCell ⟨b, 1, none⟩ v1).setCell ⟨b, 2, none⟩ v2).setCell ⟨b, 3, none⟩ v3).setCell ⟨b, 4, none⟩ v4).setCell ⟨b, 5, none⟩ v5).setCell ⟨b, 6, none⟩ v6).setCell ⟨b, 7, none⟩ v7).setCell ⟨b, 8, none⟩ v8).setCell ⟨b, 9, none⟩ v9) := by
  constructor
  · exact (((((((((h.set 0 v0).set 1 v1).set 2 v2).set 3 v3).set 4 v4).set 5 v5).set 6 v6).set 7 v7).set 8 v8).set 9 v9
  · have step : ∀ (W : World) (i : Nat) (v : Value), Chg (fun j => j = b) w W → Chg (fun j => j = b) w (W.setCell ⟨b, i, none⟩ v) := fun W i v hc => hc.setCell ⟨b, i, none⟩ v (fun _ => rfl)
    exact step _ 9 _ (step _ 8 _ (step _ 7 _ (step _ 6 _ (step _ 5 _ (step _ 4 _ (step _ 3 _ (step _ 2 _ (step _ 1 _ (step _ 0 _ (Chg.refl _ _))))))))))
/-- what a step of the reference's memory tells: a memory of its own, a number, a bool. -/
def RefTold (w : World) (gb : Nat) (ws' : List Nat) (told : Nat) (ok : Bool) (e : Ending) (w' : World) : Prop :=
  ∃ (g c : Nat) (d0 d1 d2 d3 d4 d5 : Int), e = .returned (.tuple #[.agg #[.slice (some ⟨g, 0, none⟩) ws'.length c, .slice (some ⟨gb, 0, none⟩) ws'.length ws'.length, .int .i64 d0, .int .i64 d1, .int .i64 d2, .int .i64 d3, .int .i64 d4, .int .i64 d5, .int .i64 (-1), .bool false], .int .u64 told, .bool ok]) ∧
    RefAt w' g gb ws' ∧ w.heap.size ≤ g ∧ Below w.heap.size w w'

set_option maxHeartbeats 2000000 in
set_option maxRecDepth 100000 in
theorem refload_calls (gw cw gb : Nat) (c0 c1 c2 c3 c4 c5 : Int) (ws : List Nat) (a v0 v1 v2 v3 : Nat) (w : World) (hm : RefAt w gw gb ws) (ha : a < ws.length) :
    Calls Try.prog 31 #[.agg #[.slice (some ⟨gw, 0, none⟩) ws.length cw, .slice (some ⟨gb, 0, none⟩) ws.length ws.length, .int .i64 c0, .int .i64 c1, .int .i64 c2, .int .i64 c3, .int .i64 c4, .int .i64 c5, .int .i64 (-1), .bool false],
      .agg #[.int .i64 0, .int .i64 a, .int .u64 v0, .int .u64 v1, .int .u64 v2, .int .u64 v3]] w fun e w' => RefTold w gb (ws.set a (ws.getD a 0)) (ws.getD a 0) false e w' := by
  have HYF : Hid (ws.getD a 0 < 18446744073709551616) := Lib.hid (hm.getD_lt a)
  have HB := Lib.hid (fun c0 c1 c2 c3 c4 c5 W (h : RefAt W gw gb ws) => refbad_calls gw cw gb c0 c1 c2 c3 c4 c5 ws a W h ha)
  have HM := Lib.hid hm
  have hmost := hm.most
  have hal : (a : Int) < (ws.length : Int) := by omega
  have ha0 : (0 : Int) ≤ (a : Int) := by omega
  clear hm ha
  obtain ⟨x, hx⟩ : ∃ x, ws.getD a 0 = x := ⟨_, rfl⟩
  have HX := Lib.hid hx
  obtain ⟨n, hn⟩ : ∃ n, ws.length = n := ⟨_, rfl⟩
  rw [hn] at HB hmost hal ⊢
  have HN := Lib.hid hn
  have K1 : Hid (∀ W : World, Below w.heap.size w W → W.cell? ⟨gw, a, none⟩ = some (.int .u64 (x : Nat))) := Lib.hid (fun W hb => by rw [← hx]; exact kcell hb (HM.out.word a (by rw [hn]; omega)))
  (try rw [hx])
  clear hn hx
  obtain ⟨W4, hW4⟩ : ∃ W4, W4 = (((w.alloc (Obj.cells #[.slice (some ⟨gw, 0, none⟩) n cw, .slice (some ⟨gb, 0, none⟩) n n, .int .i64 (wrap64 (c0 + 1)), .int .i64 c1, .int .i64 c2, .int .i64 c3, .int .i64 c4, .int .i64 c5, .int .i64 (-1), .bool false] 34)).alloc (Obj.cells #[.int .i64 0, .int .i64 a, .int .u64 v0, .int .u64 v1, .int .u64 v2, .int .u64 v3] 81)).alloc (Obj.cells #[.slice none 0 0, .slice none 0 0, .int .i64 0, .int .i64 0, .int .i64 0, .int .i64 0, .int .i64 0, .int .i64 0, .int .i64 0, .bool false] 34)).alloc (Obj.cells #[.slice (some ⟨gw, 0, none⟩) n cw, .slice (some ⟨gb, 0, none⟩) n n, .int .i64 (wrap64 (c0 + 1)), .int .i64 c1, .int .i64 c2, .int .i64 c3, .int .i64 c4, .int .i64 c5, .int .i64 (-1), .bool false] 34) := ⟨_, rfl⟩
  have b0 : Blk W4 w.heap.size 34 (Array.toList #[.slice (some ⟨gw, 0, none⟩) n cw, .slice (some ⟨gb, 0, none⟩) n n, .int .i64 (wrap64 (c0 + 1)), .int .i64 c1, .int .i64 c2, .int .i64 c3, .int .i64 c4, .int .i64 c5, .int .i64 (-1), .bool false]) := by rw [hW4]; exact (((blk_new w 34 _ _ rfl).alloc _).alloc _).alloc _
  have b1 : Blk W4 (w.heap.size + 1) 81 (Array.toList #[.int .i64 0, .int .i64 a, .int .u64 v0, .int .u64 v1, .int .u64 v2, .int .u64 v3]) := by
    have b := blk_new (w.alloc (Obj.cells #[.slice (some ⟨gw, 0, none⟩) n cw, .slice (some ⟨gb, 0, none⟩) n n, .int .i64 (wrap64 (c0 + 1)), .int .i64 c1, .int .i64 c2, .int .i64 c3, .int .i64 c4, .int .i64 c5, .int .i64 (-1), .bool false] 34)) 81 #[.int .i64 0, .int .i64 a, .int .u64 v0, .int .u64 v1, .int .u64 v2, .int .u64 v3] _ rfl
    simp only [World.size_alloc] at b
    rw [hW4]; exact (b.alloc _).alloc _
  have b2 : Blk W4 (w.heap.size + 1 + 1) 34 (Array.toList #[.slice none 0 0, .slice none 0 0, .int .i64 0, .int .i64 0, .int .i64 0, .int .i64 0, .int .i64 0, .int .i64 0, .int .i64 0, .bool false]) := by
    have b := blk_new ((w.alloc (Obj.cells #[.slice (some ⟨gw, 0, none⟩) n cw, .slice (some ⟨gb, 0, none⟩) n n, .int .i64 (wrap64 (c0 + 1)), .int .i64 c1, .int .i64 c2, .int .i64 c3, .int .i64 c4, .int .i64 c5, .int .i64 (-1), .bool false] 34)).alloc (Obj.cells #[.int .i64 0, .int .i64 a, .int .u64 v0, .int .u64 v1, .int .u64 v2, .int .u64 v3] 81)) 34 #[.slice none 0 0, .slice none 0 0, .int .i64 0, .int .i64 0, .int .i64 0, .int .i64 0, .int .i64 0, .int .i64 0, .int .i64 0, .bool false] _ rfl
    simp only [World.size_alloc] at b
    rw [hW4]; exact b.alloc _
  have hb4 : Below w.heap.size w W4 := by rw [hW4]; exact bnew (bnew (bnew (bnew (Below.refl _ _) _) _) _) _
  have hB4 := Lib.hid (And.intro b0 (And.intro b1 (And.intro b2 hb4)))
  have HW4 := Lib.hid hW4
  clear b0 b1 b2 hb4 hW4
  obtain ⟨i0, hi, hz⟩ := Option.map_eq_some_iff.1 info_u64
  simp only [Prod.mk.injEq] at hz
  obtain ⟨hz0, hz1, hz2⟩ := hz
  have HI := Lib.hid hi; have HZ0 := Lib.hid hz0; have HZ1 := Lib.hid hz1; have HZ2 := Lib.hid hz2
  clear hi hz0 hz1 hz2
  have HC : Hid (∀ j u, (wordVals ws)[j]? = some u → W4.cell? ⟨gw, j, none⟩ = some u) := Lib.hid (fun j u hu => by
    obtain ⟨r, hb⟩ := (HM.out.below hB4.out.2.2.2).words
    rw [hb.cell j, List.getElem?_append_left (by rcases Nat.lt_or_ge j (wordVals ws).length with h | h; exact h; rw [List.getElem?_eq_none h] at hu; cases hu)]
    exact hu)
  have HXL : Hid ((wordVals ws).length = n * 1) := Lib.hid (by simp [wordVals, HN.out])
  have HO : Hid (∀ v ∈ wordVals ws, v.oneCell' = true) := Lib.hid (by
    intro v hv
    simp [wordVals] at hv
    obtain ⟨z, _, rfl⟩ := hv
    rfl)
  generalize hcs : wordVals ws = cs at HXL HO HC
  have HCS := Lib.hid hcs
  clear hcs
  go_enter Try.func31, Try.ntmps31
  go_wp2_with fail
  refine (HB.out _ _ _ _ _ _ _ (HM.out.below (bnew (bnew (bnew (Below.refl _ _) _) _) _))).mono ?_; rintro e w' ⟨rfl, rfl⟩
  go_upto_region 14 with fail
  rw [← HW4.out]
  clear HW4
  have q0 : W4.cell? ⟨w.heap.size, 0, none⟩ = some (.slice (some ⟨gw, 0, none⟩) n cw) := hB4.out.1.cell 0
  have q1 : W4.cell? ⟨w.heap.size + 1, 0, none⟩ = some (.int .i64 0) := hB4.out.2.1.cell 0
  have q2 : W4.cell? ⟨w.heap.size + 1, 1, none⟩ = some (.int .i64 a) := hB4.out.2.1.cell 1
  have q3 : W4.cell? ⟨w.heap.size + 1, 2, none⟩ = some (.int .u64 v0) := hB4.out.2.1.cell 2
  have q4 : W4.cell? ⟨w.heap.size + 1, 3, none⟩ = some (.int .u64 v1) := hB4.out.2.1.cell 3
  have qw : W4.cell? ⟨gw, a, none⟩ = some (.int .u64 (x : Nat)) := K1.out W4 hB4.out.2.2.2
  go_upto_region 36 with fail
  have q0a := fun o => kalloc o q0
  go_wp2_with (first | (at_builtin; (refine wpList_append_own_at _ rfl (.tmp 138) (.tmp 140) 30 rfl W4.heap.size 40 i0 (.int .u64 0) 1 8 Try.underlying30 HI.out HZ0.out HZ1.out HZ2.out rfl (by decide) _ 0 [] rfl ?c0 ⟨gw, 0, none⟩ n cw cs rfl HXL.out ?c1 HO.out ?c3 ?c4 ?c5 ?_)))
  case c0 => exact World.ownsRow_made W4 #[] 0 (Nat.le_refl _) (Nat.zero_le _) rfl
  case c1 => intro j u hu; rw [add_none, Nat.zero_add]; exact kalloc _ (HC.out j u hu)
  case c3 => simp [maxLen]; omega
  case c4 => omega
  case c5 => simp
  intro v' w2 hown hg _ _
  obtain ⟨g', c', rest, rfl, hge, hnc, hbk⟩ := own_blk (by omega) hown
  have hb2 : Below W4.heap.size W4 w2 := (bnew (Below.refl _ _) _).grown hg (by simp) (fun k hk => by
    have : k = W4.heap.size := by simpa [Value.ownBlock] using hk.symm
    omega)
  have hl0 := hB4.out.1.lt
  have hl1 := hB4.out.2.1.lt
  have hl2 := hB4.out.2.2.1.lt
  have hch := chg_of_below (fun _ => False) hb2
  have d0 := hB4.out.1.chg hch (fun h => h)
  have d1 := hB4.out.2.1.chg hch (fun h => h)
  have d2 := hB4.out.2.2.1.chg hch (fun h => h)
  have hb2' := bseq hB4.out.2.2.2 hb2
  have z0 := d0.free 0
  have q0b : w2.cell? ⟨w.heap.size, 0, none⟩ = some (.slice (some ⟨gw, 0, none⟩) n cw) := d0.cell 0
  have HD := Lib.hid (And.intro d0 (And.intro d1 (And.intro d2 (And.intro hbk hb2'))))
  have HL := Lib.hid (And.intro hl0 (And.intro hl1 (And.intro hl2 (And.intro hge hnc))))
  have hsz := hB4.out.2.2.2.size
  have HSZ := Lib.hid hsz
  have HMW := Lib.hid (HM.out.below (hB4.out.2.2.2))
  have HBW := Lib.hid hb2
  clear hown hg hb2 hl0 hl1 hl2 hch d0 d1 d2 hb2' hge hnc hbk q0 q0a q1 q2 q3 q4 qw hB4 HC hsz
  go_upto_region 37 with fail
  clear z0 q0b
  have e0 := HD.out.1.set 0 (.slice (some ⟨g', 0, none⟩) n c')
  have e1 := HD.out.2.1.other ⟨w.heap.size, 0, none⟩ (.slice (some ⟨g', 0, none⟩) n c') (show w.heap.size + 1 ≠ w.heap.size by omega)
  have e2 := HD.out.2.2.1.other ⟨w.heap.size, 0, none⟩ (.slice (some ⟨g', 0, none⟩) n c') (show w.heap.size + 1 + 1 ≠ w.heap.size by omega)
  have eg := HD.out.2.2.2.1.other ⟨w.heap.size, 0, none⟩ (.slice (some ⟨g', 0, none⟩) n c') (show g' ≠ w.heap.size by have := HL.out; omega)
  have eb : Below w.heap.size w (w2.setCell ⟨w.heap.size, 0, none⟩ (.slice (some ⟨g', 0, none⟩) n c')) := HD.out.2.2.2.2.setCell (by simp) _
  generalize w2.setCell ⟨w.heap.size, 0, none⟩ (.slice (some ⟨g', 0, none⟩) n c') = w3 at e0 e1 e2 eg eb ⊢
  have f0 : w3.cell? ⟨w.heap.size, 0, none⟩ = some (.slice (some ⟨g', 0, none⟩) n c') := e0.cell 0
  have f1 : w3.cell? ⟨w.heap.size + 1, 1, none⟩ = some (.int .i64 a) := e1.cell 1
  have hac : a < cs.length := by have := HXL.out; omega
  obtain ⟨u, hu⟩ : ∃ u, w3.cell? ⟨g', a, none⟩ = some u := ⟨_, by rw [eg.cell a, List.getElem?_append_left hac, List.getElem?_eq_getElem hac]⟩
  have zg := eg.free a
  have HE := Lib.hid (And.intro e0 (And.intro e1 (And.intro e2 (And.intro eg eb))))
  clear e0 e1 e2 eg eb hac HD
  go_upto_region 38 with fail
  clear f0 f1 hu zg
  have hgN : g' ≠ w.heap.size ∧ g' ≠ w.heap.size + 1 ∧ g' ≠ w.heap.size + 1 + 1 := by have := HL.out; omega
  have e0 := HE.out.1.other ⟨g', a, none⟩ (.int .u64 (x : Nat)) (fun e => hgN.1 e.symm)
  have e1 := HE.out.2.1.other ⟨g', a, none⟩ (.int .u64 (x : Nat)) (fun e => hgN.2.1 e.symm)
  have e2 := HE.out.2.2.1.other ⟨g', a, none⟩ (.int .u64 (x : Nat)) (fun e => hgN.2.2 e.symm)
  have eg := HE.out.2.2.2.1.set a (.int .u64 (x : Nat))
  have eb : Below w.heap.size w (w3.setCell ⟨g', a, none⟩ (.int .u64 (x : Nat))) := HE.out.2.2.2.2.setCell (by have := HL.out; have := HSZ.out; show w.heap.size ≤ g'; omega) _
  generalize w3.setCell ⟨g', a, none⟩ (.int .u64 (x : Nat)) = w4 at e0 e1 e2 eg eb ⊢
  have f0 : w4.cell? ⟨w.heap.size, 0, none⟩ = some (.slice (some ⟨g', 0, none⟩) n c') := e0.cell 0
  have f1 := e0.cell 1
  have f2 := e0.cell 2
  have f3 := e0.cell 3
  have f4 := e0.cell 4
  have f5 := e0.cell 5
  have f6 := e0.cell 6
  have f7 := e0.cell 7
  have f8 := e0.cell 8
  have f9 := e0.cell 9
  have h0 : w4.cell? ⟨w.heap.size + 1, 0, none⟩ = some (.int .i64 0) := e1.cell 0
  have z0 := e2.free 0
  have z1 := e2.free 1
  have z2 := e2.free 2
  have z3 := e2.free 3
  have z4 := e2.free 4
  have z5 := e2.free 5
  have z6 := e2.free 6
  have z7 := e2.free 7
  have z8 := e2.free 8
  have z9 := e2.free 9
  have y0 := e2.cell 0
  have y1 := e2.cell 1
  have y2 := e2.cell 2
  have y3 := e2.cell 3
  have y4 := e2.cell 4
  have y5 := e2.cell 5
  have y6 := e2.cell 6
  have y7 := e2.cell 7
  have y8 := e2.cell 8
  have y9 := e2.cell 9
  have HF := Lib.hid (And.intro e2 (And.intro eg eb))
  clear e0 e1 e2 eg eb hgN HE
  simp only [List.set_cons_zero, List.getElem?_cons_succ, List.getElem?_cons_zero] at f1 f2 f3 f4 f5 f6 f7 f8 f9 y0 y1 y2 y3 y4 y5 y6 y7 y8 y9
  go_wp2
  clear f0 f1 f2 f3 f4 f5 f6 f7 f8 f9 h0 z0 z1 z2 z3 z4 z5 z6 z7 z8 z9 y0 y1 y2 y3 y4 y5 y6 y7 y8 y9
  obtain ⟨b2, hch⟩ := set10 HF.out.1 (.slice (some ⟨g', 0, none⟩) n c') (.slice (some ⟨gb, 0, none⟩) n n) (.int .i64 (wrap64 (c0 + 1))) (.int .i64 c1) (.int .i64 c2) (.int .i64 c3) (.int .i64 c4) (.int .i64 c5) (.int .i64 (-1)) (.bool false)
  generalize ((((((((((w4.setCell ⟨w.heap.size + 1 + 1, 0, none⟩ (.slice (some ⟨g', 0, none⟩) n c')).setCell ⟨w.heap.size + 1 + 1, 1, none⟩ (.slice (some ⟨gb, 0, none⟩) n n)).setCell ⟨w.heap.size + 1 + 1, 2, none⟩ (.int .i64 (wrap64 (c0 + 1)))).setCell ⟨w.heap.size + 1 + 1, 3, none⟩ (.int .i64 c1)).setCell ⟨w.heap.size + 1 + 1, 4, none⟩ (.int .i64 c2)).setCell ⟨w.heap.size + 1 + 1, 5, none⟩ (.int .i64 c3)).setCell ⟨w.heap.size + 1 + 1, 6, none⟩ (.int .i64 c4)).setCell ⟨w.heap.size + 1 + 1, 7, none⟩ (.int .i64 c5)).setCell ⟨w.heap.size + 1 + 1, 8, none⟩ (.int .i64 (-1))).setCell ⟨w.heap.size + 1 + 1, 9, none⟩ (.bool false)) = w5 at b2 hch ⊢
  have hgn : g' ≠ w.heap.size + 1 + 1 := by have := HL.out; omega
  have hbk : Blk w5 g' 40 (wordVals (ws.set a (x)) ++ rest) := by
    have h := HF.out.2.1.chg hch (fun e => hgn e)
    rw [List.set_append_left _ _ (by have := HXL.out; omega), ← HCS.out] at h
    unfold wordVals at h ⊢
    rw [List.map_set]; exact h
  have hbel : Below w.heap.size w w5 := Chg.below HF.out.2.2 hch HF.out.2.2.size (fun k hk => by omega)
  have hmk : Blk w5 gb 4 (List.replicate ws.length (.bool false)) := HM.out.marks.chg (chg_of_below (fun _ => False) hbel) (fun h => h)
  have hgl : gb < w.heap.size := HM.out.marks.lt
  have hRef : RefAt w5 g' gb (ws.set a (x)) := ⟨⟨rest, hbk⟩, by rw [List.length_set]; exact hmk, by have := HL.out; have := HSZ.out; omega, by rw [List.length_set]; exact HM.out.pos, by rw [List.length_set]; exact HM.out.most, fun z hz => by
    rcases List.mem_or_eq_of_mem_set hz with h' | h'
    · exact HM.out.fit z h'
    · have := HYF.out; (try rw [HX.out] at this); rw [h']; exact this⟩
  have l0 := b2.cell 0
  have l1 := b2.cell 1
  have l2 := b2.cell 2
  have l3 := b2.cell 3
  have l4 := b2.cell 4
  have l5 := b2.cell 5
  have l6 := b2.cell 6
  have l7 := b2.cell 7
  have l8 := b2.cell 8
  have l9 := b2.cell 9
  simp only [List.getElem?_cons_succ, List.getElem?_cons_zero] at l0 l1 l2 l3 l4 l5 l6 l7 l8 l9
  refine bodyPost_ret (v := .tuple #[.agg #[.slice (some ⟨g', 0, none⟩) n c', .slice (some ⟨gb, 0, none⟩) n n, .int .i64 (wrap64 (c0 + 1)), .int .i64 c1, .int .i64 c2, .int .i64 c3, .int .i64 c4, .int .i64 c5, .int .i64 (-1), .bool false], .int .u64 (x : Nat), .bool false]) (by simp [results, Try.results31, go_sem, l0, l1, l2, l3, l4, l5, l6, l7, l8, l9]) rfl ⟨g', c', _, _, _, _, _, _, by rw [List.length_set, HN.out], hRef, by have := HL.out; have := HSZ.out; omega, hbel⟩

set_option maxHeartbeats 2000000 in
set_option maxRecDepth 100000 in
theorem refstore_calls (gw cw gb : Nat) (c0 c1 c2 c3 c4 c5 : Int) (ws : List Nat) (a v0 v1 v2 v3 : Nat) (w : World) (hm : RefAt w gw gb ws) (ha : a < ws.length) (hv : v0 < 18446744073709551616) :
    Calls Try.prog 31 #[.agg #[.slice (some ⟨gw, 0, none⟩) ws.length cw, .slice (some ⟨gb, 0, none⟩) ws.length ws.length, .int .i64 c0, .int .i64 c1, .int .i64 c2, .int .i64 c3, .int .i64 c4, .int .i64 c5, .int .i64 (-1), .bool false],
      .agg #[.int .i64 1, .int .i64 a, .int .u64 v0, .int .u64 v1, .int .u64 v2, .int .u64 v3]] w fun e w' => RefTold w gb (ws.set a (v0)) (0) false e w' := by
  have HYF : Hid (v0 < 18446744073709551616) := Lib.hid (hv)
  have HB := Lib.hid (fun c0 c1 c2 c3 c4 c5 W (h : RefAt W gw gb ws) => refbad_calls gw cw gb c0 c1 c2 c3 c4 c5 ws a W h ha)
  have HM := Lib.hid hm
  have hmost := hm.most
  have hal : (a : Int) < (ws.length : Int) := by omega
  have ha0 : (0 : Int) ≤ (a : Int) := by omega
  clear hv
  clear hm ha
  obtain ⟨x, hx⟩ : ∃ x, ws.getD a 0 = x := ⟨_, rfl⟩
  have HX := Lib.hid hx
  obtain ⟨n, hn⟩ : ∃ n, ws.length = n := ⟨_, rfl⟩
  rw [hn] at HB hmost hal ⊢
  have HN := Lib.hid hn
  have K1 : Hid (∀ W : World, Below w.heap.size w W → W.cell? ⟨gw, a, none⟩ = some (.int .u64 (x : Nat))) := Lib.hid (fun W hb => by rw [← hx]; exact kcell hb (HM.out.word a (by rw [hn]; omega)))
  (try rw [hx])
  clear hn hx
  obtain ⟨W4, hW4⟩ : ∃ W4, W4 = (((w.alloc (Obj.cells #[.slice (some ⟨gw, 0, none⟩) n cw, .slice (some ⟨gb, 0, none⟩) n n, .int .i64 c0, .int .i64 (wrap64 (c1 + 1)), .int .i64 c2, .int .i64 c3, .int .i64 c4, .int .i64 c5, .int .i64 (-1), .bool false] 34)).alloc (Obj.cells #[.int .i64 1, .int .i64 a, .int .u64 v0, .int .u64 v1, .int .u64 v2, .int .u64 v3] 81)).alloc (Obj.cells #[.slice none 0 0, .slice none 0 0, .int .i64 0, .int .i64 0, .int .i64 0, .int .i64 0, .int .i64 0, .int .i64 0, .int .i64 0, .bool false] 34)).alloc (Obj.cells #[.slice (some ⟨gw, 0, none⟩) n cw, .slice (some ⟨gb, 0, none⟩) n n, .int .i64 c0, .int .i64 (wrap64 (c1 + 1)), .int .i64 c2, .int .i64 c3, .int .i64 c4, .int .i64 c5, .int .i64 (-1), .bool false] 34) := ⟨_, rfl⟩
  have b0 : Blk W4 w.heap.size 34 (Array.toList #[.slice (some ⟨gw, 0, none⟩) n cw, .slice (some ⟨gb, 0, none⟩) n n, .int .i64 c0, .int .i64 (wrap64 (c1 + 1)), .int .i64 c2, .int .i64 c3, .int .i64 c4, .int .i64 c5, .int .i64 (-1), .bool false]) := by rw [hW4]; exact (((blk_new w 34 _ _ rfl).alloc _).alloc _).alloc _
  have b1 : Blk W4 (w.heap.size + 1) 81 (Array.toList #[.int .i64 1, .int .i64 a, .int .u64 v0, .int .u64 v1, .int .u64 v2, .int .u64 v3]) := by
    have b := blk_new (w.alloc (Obj.cells #[.slice (some ⟨gw, 0, none⟩) n cw, .slice (some ⟨gb, 0, none⟩) n n, .int .i64 c0, .int .i64 (wrap64 (c1 + 1)), .int .i64 c2, .int .i64 c3, .int .i64 c4, .int .i64 c5, .int .i64 (-1), .bool false] 34)) 81 #[.int .i64 1, .int .i64 a, .int .u64 v0, .int .u64 v1, .int .u64 v2, .int .u64 v3] _ rfl
    simp only [World.size_alloc] at b
    rw [hW4]; exact (b.alloc _).alloc _
  have b2 : Blk W4 (w.heap.size + 1 + 1) 34 (Array.toList #[.slice none 0 0, .slice none 0 0, .int .i64 0, .int .i64 0, .int .i64 0, .int .i64 0, .int .i64 0, .int .i64 0, .int .i64 0, .bool false]) := by
    have b := blk_new ((w.alloc (Obj.cells #[.slice (some ⟨gw, 0, none⟩) n cw, .slice (some ⟨gb, 0, none⟩) n n, .int .i64 c0, .int .i64 (wrap64 (c1 + 1)), .int .i64 c2, .int .i64 c3, .int .i64 c4, .int .i64 c5, .int .i64 (-1), .bool false] 34)).alloc (Obj.cells #[.int .i64 1, .int .i64 a, .int .u64 v0, .int .u64 v1, .int .u64 v2, .int .u64 v3] 81)) 34 #[.slice none 0 0, .slice none 0 0, .int .i64 0, .int .i64 0, .int .i64 0, .int .i64 0, .int .i64 0, .int .i64 0, .int .i64 0, .bool false] _ rfl
    simp only [World.size_alloc] at b
    rw [hW4]; exact b.alloc _
  have hb4 : Below w.heap.size w W4 := by rw [hW4]; exact bnew (bnew (bnew (bnew (Below.refl _ _) _) _) _) _
  have hB4 := Lib.hid (And.intro b0 (And.intro b1 (And.intro b2 hb4)))
  have HW4 := Lib.hid hW4
  clear b0 b1 b2 hb4 hW4
  obtain ⟨i0, hi, hz⟩ := Option.map_eq_some_iff.1 info_u64
  simp only [Prod.mk.injEq] at hz
  obtain ⟨hz0, hz1, hz2⟩ := hz
  have HI := Lib.hid hi; have HZ0 := Lib.hid hz0; have HZ1 := Lib.hid hz1; have HZ2 := Lib.hid hz2
  clear hi hz0 hz1 hz2
  have HC : Hid (∀ j u, (wordVals ws)[j]? = some u → W4.cell? ⟨gw, j, none⟩ = some u) := Lib.hid (fun j u hu => by
    obtain ⟨r, hb⟩ := (HM.out.below hB4.out.2.2.2).words
    rw [hb.cell j, List.getElem?_append_left (by rcases Nat.lt_or_ge j (wordVals ws).length with h | h; exact h; rw [List.getElem?_eq_none h] at hu; cases hu)]
    exact hu)
  have HXL : Hid ((wordVals ws).length = n * 1) := Lib.hid (by simp [wordVals, HN.out])
  have HO : Hid (∀ v ∈ wordVals ws, v.oneCell' = true) := Lib.hid (by
    intro v hv
    simp [wordVals] at hv
    obtain ⟨z, _, rfl⟩ := hv
    rfl)
  generalize hcs : wordVals ws = cs at HXL HO HC
  have HCS := Lib.hid hcs
  clear hcs
  go_enter Try.func31, Try.ntmps31
  go_wp2_with fail
  refine (HB.out _ _ _ _ _ _ _ (HM.out.below (bnew (bnew (bnew (Below.refl _ _) _) _) _))).mono ?_; rintro e w' ⟨rfl, rfl⟩
  go_upto_region 14 with fail
  rw [← HW4.out]
  clear HW4
  have q0 : W4.cell? ⟨w.heap.size, 0, none⟩ = some (.slice (some ⟨gw, 0, none⟩) n cw) := hB4.out.1.cell 0
  have q1 : W4.cell? ⟨w.heap.size + 1, 0, none⟩ = some (.int .i64 1) := hB4.out.2.1.cell 0
  have q2 : W4.cell? ⟨w.heap.size + 1, 1, none⟩ = some (.int .i64 a) := hB4.out.2.1.cell 1
  have q3 : W4.cell? ⟨w.heap.size + 1, 2, none⟩ = some (.int .u64 v0) := hB4.out.2.1.cell 2
  have q4 : W4.cell? ⟨w.heap.size + 1, 3, none⟩ = some (.int .u64 v1) := hB4.out.2.1.cell 3
  have qw : W4.cell? ⟨gw, a, none⟩ = some (.int .u64 (x : Nat)) := K1.out W4 hB4.out.2.2.2
  go_upto_region 36 with fail
  have q0a := fun o => kalloc o q0
  go_wp2_with (first | (at_builtin; (refine wpList_append_own_at _ rfl (.tmp 138) (.tmp 140) 30 rfl W4.heap.size 40 i0 (.int .u64 0) 1 8 Try.underlying30 HI.out HZ0.out HZ1.out HZ2.out rfl (by decide) _ 0 [] rfl ?c0 ⟨gw, 0, none⟩ n cw cs rfl HXL.out ?c1 HO.out ?c3 ?c4 ?c5 ?_)))
  case c0 => exact World.ownsRow_made W4 #[] 0 (Nat.le_refl _) (Nat.zero_le _) rfl
  case c1 => intro j u hu; rw [add_none, Nat.zero_add]; exact kalloc _ (HC.out j u hu)
  case c3 => simp [maxLen]; omega
  case c4 => omega
  case c5 => simp
  intro v' w2 hown hg _ _
  obtain ⟨g', c', rest, rfl, hge, hnc, hbk⟩ := own_blk (by omega) hown
  have hb2 : Below W4.heap.size W4 w2 := (bnew (Below.refl _ _) _).grown hg (by simp) (fun k hk => by
    have : k = W4.heap.size := by simpa [Value.ownBlock] using hk.symm
    omega)
  have hl0 := hB4.out.1.lt
  have hl1 := hB4.out.2.1.lt
  have hl2 := hB4.out.2.2.1.lt
  have hch := chg_of_below (fun _ => False) hb2
  have d0 := hB4.out.1.chg hch (fun h => h)
  have d1 := hB4.out.2.1.chg hch (fun h => h)
  have d2 := hB4.out.2.2.1.chg hch (fun h => h)
  have hb2' := bseq hB4.out.2.2.2 hb2
  have z0 := d0.free 0
  have q0b : w2.cell? ⟨w.heap.size, 0, none⟩ = some (.slice (some ⟨gw, 0, none⟩) n cw) := d0.cell 0
  have HD := Lib.hid (And.intro d0 (And.intro d1 (And.intro d2 (And.intro hbk hb2'))))
  have HL := Lib.hid (And.intro hl0 (And.intro hl1 (And.intro hl2 (And.intro hge hnc))))
  have hsz := hB4.out.2.2.2.size
  have HSZ := Lib.hid hsz
  have HMW := Lib.hid (HM.out.below (hB4.out.2.2.2))
  have HBW := Lib.hid hb2
  clear hown hg hb2 hl0 hl1 hl2 hch d0 d1 d2 hb2' hge hnc hbk q0 q0a q1 q2 q3 q4 qw hB4 HC hsz
  go_upto_region 37 with fail
  clear z0 q0b
  have e0 := HD.out.1.set 0 (.slice (some ⟨g', 0, none⟩) n c')
  have e1 := HD.out.2.1.other ⟨w.heap.size, 0, none⟩ (.slice (some ⟨g', 0, none⟩) n c') (show w.heap.size + 1 ≠ w.heap.size by omega)
  have e2 := HD.out.2.2.1.other ⟨w.heap.size, 0, none⟩ (.slice (some ⟨g', 0, none⟩) n c') (show w.heap.size + 1 + 1 ≠ w.heap.size by omega)
  have eg := HD.out.2.2.2.1.other ⟨w.heap.size, 0, none⟩ (.slice (some ⟨g', 0, none⟩) n c') (show g' ≠ w.heap.size by have := HL.out; omega)
  have eb : Below w.heap.size w (w2.setCell ⟨w.heap.size, 0, none⟩ (.slice (some ⟨g', 0, none⟩) n c')) := HD.out.2.2.2.2.setCell (by simp) _
  generalize w2.setCell ⟨w.heap.size, 0, none⟩ (.slice (some ⟨g', 0, none⟩) n c') = w3 at e0 e1 e2 eg eb ⊢
  have f0 : w3.cell? ⟨w.heap.size, 0, none⟩ = some (.slice (some ⟨g', 0, none⟩) n c') := e0.cell 0
  have f1 : w3.cell? ⟨w.heap.size + 1, 1, none⟩ = some (.int .i64 a) := e1.cell 1
  have hac : a < cs.length := by have := HXL.out; omega
  obtain ⟨u, hu⟩ : ∃ u, w3.cell? ⟨g', a, none⟩ = some u := ⟨_, by rw [eg.cell a, List.getElem?_append_left hac, List.getElem?_eq_getElem hac]⟩
  have zg := eg.free a
  have HE := Lib.hid (And.intro e0 (And.intro e1 (And.intro e2 (And.intro eg eb))))
  clear e0 e1 e2 eg eb hac HD
  go_upto_region 38 with fail
  clear f0 f1 hu zg
  have hgN : g' ≠ w.heap.size ∧ g' ≠ w.heap.size + 1 ∧ g' ≠ w.heap.size + 1 + 1 := by have := HL.out; omega
  have e0 := HE.out.1.other ⟨g', a, none⟩ (.int .u64 (v0 : Nat)) (fun e => hgN.1 e.symm)
  have e1 := HE.out.2.1.other ⟨g', a, none⟩ (.int .u64 (v0 : Nat)) (fun e => hgN.2.1 e.symm)
  have e2 := HE.out.2.2.1.other ⟨g', a, none⟩ (.int .u64 (v0 : Nat)) (fun e => hgN.2.2 e.symm)
  have eg := HE.out.2.2.2.1.set a (.int .u64 (v0 : Nat))
  have eb : Below w.heap.size w (w3.setCell ⟨g', a, none⟩ (.int .u64 (v0 : Nat))) := HE.out.2.2.2.2.setCell (by have := HL.out; have := HSZ.out; show w.heap.size ≤ g'; omega) _
  generalize w3.setCell ⟨g', a, none⟩ (.int .u64 (v0 : Nat)) = w4 at e0 e1 e2 eg eb ⊢
  have f0 : w4.cell? ⟨w.heap.size, 0, none⟩ = some (.slice (some ⟨g', 0, none⟩) n c') := e0.cell 0
  have f1 := e0.cell 1
  have f2 := e0.cell 2
  have f3 := e0.cell 3
  have f4 := e0.cell 4
  have f5 := e0.cell 5
  have f6 := e0.cell 6
  have f7 := e0.cell 7
  have f8 := e0.cell 8
  have f9 := e0.cell 9
  have h0 : w4.cell? ⟨w.heap.size + 1, 0, none⟩ = some (.int .i64 1) := e1.cell 0
  have z0 := e2.free 0
  have z1 := e2.free 1
  have z2 := e2.free 2
  have z3 := e2.free 3
  have z4 := e2.free 4
  have z5 := e2.free 5
  have z6 := e2.free 6
  have z7 := e2.free 7
  have z8 := e2.free 8
  have z9 := e2.free 9
  have y0 := e2.cell 0
  have y1 := e2.cell 1
  have y2 := e2.cell 2
  have y3 := e2.cell 3
  have y4 := e2.cell 4
  have y5 := e2.cell 5
  have y6 := e2.cell 6
  have y7 := e2.cell 7
  have y8 := e2.cell 8
  have y9 := e2.cell 9
  have HF := Lib.hid (And.intro e2 (And.intro eg eb))
  clear e0 e1 e2 eg eb hgN HE
  simp only [List.set_cons_zero, List.getElem?_cons_succ, List.getElem?_cons_zero] at f1 f2 f3 f4 f5 f6 f7 f8 f9 y0 y1 y2 y3 y4 y5 y6 y7 y8 y9
  go_wp2
  clear f0 f1 f2 f3 f4 f5 f6 f7 f8 f9 h0 z0 z1 z2 z3 z4 z5 z6 z7 z8 z9 y0 y1 y2 y3 y4 y5 y6 y7 y8 y9
  obtain ⟨b2, hch⟩ := set10 HF.out.1 (.slice (some ⟨g', 0, none⟩) n c') (.slice (some ⟨gb, 0, none⟩) n n) (.int .i64 c0) (.int .i64 (wrap64 (c1 + 1))) (.int .i64 c2) (.int .i64 c3) (.int .i64 c4) (.int .i64 c5) (.int .i64 (-1)) (.bool false)
  generalize ((((((((((w4.setCell ⟨w.heap.size + 1 + 1, 0, none⟩ (.slice (some ⟨g', 0, none⟩) n c')).setCell ⟨w.heap.size + 1 + 1, 1, none⟩ (.slice (some ⟨gb, 0, none⟩) n n)).setCell ⟨w.heap.size + 1 + 1, 2, none⟩ (.int .i64 c0)).setCell ⟨w.heap.size + 1 + 1, 3, none⟩ (.int .i64 (wrap64 (c1 + 1)))).setCell ⟨w.heap.size + 1 + 1, 4, none⟩ (.int .i64 c2)).setCell ⟨w.heap.size + 1 + 1, 5, none⟩ (.int .i64 c3)).setCell ⟨w.heap.size + 1 + 1, 6, none⟩ (.int .i64 c4)).setCell ⟨w.heap.size + 1 + 1, 7, none⟩ (.int .i64 c5)).setCell ⟨w.heap.size + 1 + 1, 8, none⟩ (.int .i64 (-1))).setCell ⟨w.heap.size + 1 + 1, 9, none⟩ (.bool false)) = w5 at b2 hch ⊢
  have hgn : g' ≠ w.heap.size + 1 + 1 := by have := HL.out; omega
  have hbk : Blk w5 g' 40 (wordVals (ws.set a (v0)) ++ rest) := by
    have h := HF.out.2.1.chg hch (fun e => hgn e)
    rw [List.set_append_left _ _ (by have := HXL.out; omega), ← HCS.out] at h
    unfold wordVals at h ⊢
    rw [List.map_set]; exact h
  have hbel : Below w.heap.size w w5 := Chg.below HF.out.2.2 hch HF.out.2.2.size (fun k hk => by omega)
  have hmk : Blk w5 gb 4 (List.replicate ws.length (.bool false)) := HM.out.marks.chg (chg_of_below (fun _ => False) hbel) (fun h => h)
  have hgl : gb < w.heap.size := HM.out.marks.lt
  have hRef : RefAt w5 g' gb (ws.set a (v0)) := ⟨⟨rest, hbk⟩, by rw [List.length_set]; exact hmk, by have := HL.out; have := HSZ.out; omega, by rw [List.length_set]; exact HM.out.pos, by rw [List.length_set]; exact HM.out.most, fun z hz => by
    rcases List.mem_or_eq_of_mem_set hz with h' | h'
    · exact HM.out.fit z h'
    · have := HYF.out; (try rw [HX.out] at this); rw [h']; exact this⟩
  have l0 := b2.cell 0
  have l1 := b2.cell 1
  have l2 := b2.cell 2
  have l3 := b2.cell 3
  have l4 := b2.cell 4
  have l5 := b2.cell 5
  have l6 := b2.cell 6
  have l7 := b2.cell 7
  have l8 := b2.cell 8
  have l9 := b2.cell 9
  simp only [List.getElem?_cons_succ, List.getElem?_cons_zero] at l0 l1 l2 l3 l4 l5 l6 l7 l8 l9
  refine bodyPost_ret (v := .tuple #[.agg #[.slice (some ⟨g', 0, none⟩) n c', .slice (some ⟨gb, 0, none⟩) n n, .int .i64 c0, .int .i64 (wrap64 (c1 + 1)), .int .i64 c2, .int .i64 c3, .int .i64 c4, .int .i64 c5, .int .i64 (-1), .bool false], .int .u64 (0 : Nat), .bool false]) (by simp [results, Try.results31, go_sem, l0, l1, l2, l3, l4, l5, l6, l7, l8, l9]) rfl ⟨g', c', _, _, _, _, _, _, by rw [List.length_set, HN.out], hRef, by have := HL.out; have := HSZ.out; omega, hbel⟩

set_option maxHeartbeats 2000000 in
set_option maxRecDepth 100000 in
theorem refswap1_calls (gw cw gb : Nat) (c0 c1 c2 c3 c4 c5 : Int) (ws : List Nat) (a v0 v1 v2 v3 : Nat) (w : World) (hm : RefAt w gw gb ws) (ha : a < ws.length) (hv : v1 < 18446744073709551616) (he : ws.getD a 0 = v0) :
    Calls Try.prog 31 #[.agg #[.slice (some ⟨gw, 0, none⟩) ws.length cw, .slice (some ⟨gb, 0, none⟩) ws.length ws.length, .int .i64 c0, .int .i64 c1, .int .i64 c2, .int .i64 c3, .int .i64 c4, .int .i64 c5, .int .i64 (-1), .bool false],
      .agg #[.int .i64 2, .int .i64 a, .int .u64 v0, .int .u64 v1, .int .u64 v2, .int .u64 v3]] w fun e w' => RefTold w gb (ws.set a (v1)) (0) true e w' := by
  have HYF : Hid (v1 < 18446744073709551616) := Lib.hid (hv)
  have HB := Lib.hid (fun c0 c1 c2 c3 c4 c5 W (h : RefAt W gw gb ws) => refbad_calls gw cw gb c0 c1 c2 c3 c4 c5 ws a W h ha)
  have HM := Lib.hid hm
  have hmost := hm.most
  have hal : (a : Int) < (ws.length : Int) := by omega
  have ha0 : (0 : Int) ≤ (a : Int) := by omega
  have HEQ := Lib.hid he
  clear hv he
  clear hm ha
  obtain ⟨x, hx⟩ : ∃ x, ws.getD a 0 = x := ⟨_, rfl⟩
  have HX := Lib.hid hx
  obtain ⟨n, hn⟩ : ∃ n, ws.length = n := ⟨_, rfl⟩
  rw [hn] at HB hmost hal ⊢
  have HN := Lib.hid hn
  have K1 : Hid (∀ W : World, Below w.heap.size w W → W.cell? ⟨gw, a, none⟩ = some (.int .u64 (x : Nat))) := Lib.hid (fun W hb => by rw [← hx]; exact kcell hb (HM.out.word a (by rw [hn]; omega)))
  (try rw [hx])
  clear hn hx
  obtain ⟨W4, hW4⟩ : ∃ W4, W4 = (((w.alloc (Obj.cells #[.slice (some ⟨gw, 0, none⟩) n cw, .slice (some ⟨gb, 0, none⟩) n n, .int .i64 c0, .int .i64 c1, .int .i64 (wrap64 (c2 + 1)), .int .i64 c3, .int .i64 c4, .int .i64 c5, .int .i64 (-1), .bool false] 34)).alloc (Obj.cells #[.int .i64 2, .int .i64 a, .int .u64 v0, .int .u64 v1, .int .u64 v2, .int .u64 v3] 81)).alloc (Obj.cells #[.slice none 0 0, .slice none 0 0, .int .i64 0, .int .i64 0, .int .i64 0, .int .i64 0, .int .i64 0, .int .i64 0, .int .i64 0, .bool false] 34)).alloc (Obj.cells #[.slice (some ⟨gw, 0, none⟩) n cw, .slice (some ⟨gb, 0, none⟩) n n, .int .i64 c0, .int .i64 c1, .int .i64 (wrap64 (c2 + 1)), .int .i64 c3, .int .i64 c4, .int .i64 c5, .int .i64 (-1), .bool false] 34) := ⟨_, rfl⟩
  have b0 : Blk W4 w.heap.size 34 (Array.toList #[.slice (some ⟨gw, 0, none⟩) n cw, .slice (some ⟨gb, 0, none⟩) n n, .int .i64 c0, .int .i64 c1, .int .i64 (wrap64 (c2 + 1)), .int .i64 c3, .int .i64 c4, .int .i64 c5, .int .i64 (-1), .bool false]) := by rw [hW4]; exact (((blk_new w 34 _ _ rfl).alloc _).alloc _).alloc _
  have b1 : Blk W4 (w.heap.size + 1) 81 (Array.toList #[.int .i64 2, .int .i64 a, .int .u64 v0, .int .u64 v1, .int .u64 v2, .int .u64 v3]) := by
    have b := blk_new (w.alloc (Obj.cells #[.slice (some ⟨gw, 0, none⟩) n cw, .slice (some ⟨gb, 0, none⟩) n n, .int .i64 c0, .int .i64 c1, .int .i64 (wrap64 (c2 + 1)), .int .i64 c3, .int .i64 c4, .int .i64 c5, .int .i64 (-1), .bool false] 34)) 81 #[.int .i64 2, .int .i64 a, .int .u64 v0, .int .u64 v1, .int .u64 v2, .int .u64 v3] _ rfl
    simp only [World.size_alloc] at b
    rw [hW4]; exact (b.alloc _).alloc _
  have b2 : Blk W4 (w.heap.size + 1 + 1) 34 (Array.toList #[.slice none 0 0, .slice none 0 0, .int .i64 0, .int .i64 0, .int .i64 0, .int .i64 0, .int .i64 0, .int .i64 0, .int .i64 0, .bool false]) := by
    have b := blk_new ((w.alloc (Obj.cells #[.slice (some ⟨gw, 0, none⟩) n cw, .slice (some ⟨gb, 0, none⟩) n n, .int .i64 c0, .int .i64 c1, .int .i64 (wrap64 (c2 + 1)), .int .i64 c3, .int .i64 c4, .int .i64 c5, .int .i64 (-1), .bool false] 34)).alloc (Obj.cells #[.int .i64 2, .int .i64 a, .int .u64 v0, .int .u64 v1, .int .u64 v2, .int .u64 v3] 81)) 34 #[.slice none 0 0, .slice none 0 0, .int .i64 0, .int .i64 0, .int .i64 0, .int .i64 0, .int .i64 0, .int .i64 0, .int .i64 0, .bool false] _ rfl
    simp only [World.size_alloc] at b
    rw [hW4]; exact b.alloc _
  have hb4 : Below w.heap.size w W4 := by rw [hW4]; exact bnew (bnew (bnew (bnew (Below.refl _ _) _) _) _) _
  have hB4 := Lib.hid (And.intro b0 (And.intro b1 (And.intro b2 hb4)))
  have HW4 := Lib.hid hW4
  clear b0 b1 b2 hb4 hW4
  obtain ⟨i0, hi, hz⟩ := Option.map_eq_some_iff.1 info_u64
  simp only [Prod.mk.injEq] at hz
  obtain ⟨hz0, hz1, hz2⟩ := hz
  have HI := Lib.hid hi; have HZ0 := Lib.hid hz0; have HZ1 := Lib.hid hz1; have HZ2 := Lib.hid hz2
  clear hi hz0 hz1 hz2
  have HC : Hid (∀ j u, (wordVals ws)[j]? = some u → W4.cell? ⟨gw, j, none⟩ = some u) := Lib.hid (fun j u hu => by
    obtain ⟨r, hb⟩ := (HM.out.below hB4.out.2.2.2).words
    rw [hb.cell j, List.getElem?_append_left (by rcases Nat.lt_or_ge j (wordVals ws).length with h | h; exact h; rw [List.getElem?_eq_none h] at hu; cases hu)]
    exact hu)
  have HXL : Hid ((wordVals ws).length = n * 1) := Lib.hid (by simp [wordVals, HN.out])
  have HO : Hid (∀ v ∈ wordVals ws, v.oneCell' = true) := Lib.hid (by
    intro v hv
    simp [wordVals] at hv
    obtain ⟨z, _, rfl⟩ := hv
    rfl)
  generalize hcs : wordVals ws = cs at HXL HO HC
  have HCS := Lib.hid hcs
  clear hcs
  go_enter Try.func31, Try.ntmps31
  go_wp2_with fail
  refine (HB.out _ _ _ _ _ _ _ (HM.out.below (bnew (bnew (bnew (Below.refl _ _) _) _) _))).mono ?_; rintro e w' ⟨rfl, rfl⟩
  go_upto_region 14 with fail
  rw [← HW4.out]
  clear HW4
  have q0 : W4.cell? ⟨w.heap.size, 0, none⟩ = some (.slice (some ⟨gw, 0, none⟩) n cw) := hB4.out.1.cell 0
  have q1 : W4.cell? ⟨w.heap.size + 1, 0, none⟩ = some (.int .i64 2) := hB4.out.2.1.cell 0
  have q2 : W4.cell? ⟨w.heap.size + 1, 1, none⟩ = some (.int .i64 a) := hB4.out.2.1.cell 1
  have q3 : W4.cell? ⟨w.heap.size + 1, 2, none⟩ = some (.int .u64 v0) := hB4.out.2.1.cell 2
  have q4 : W4.cell? ⟨w.heap.size + 1, 3, none⟩ = some (.int .u64 v1) := hB4.out.2.1.cell 3
  have qw : W4.cell? ⟨gw, a, none⟩ = some (.int .u64 (x : Nat)) := K1.out W4 hB4.out.2.2.2
  have heq : x = v0 := by rw [← HX.out, HEQ.out]
  subst heq
  go_upto_region 36 with fail
  have q0a := fun o => kalloc o q0
  go_wp2_with (first | (at_builtin; (refine wpList_append_own_at _ rfl (.tmp 138) (.tmp 140) 30 rfl W4.heap.size 40 i0 (.int .u64 0) 1 8 Try.underlying30 HI.out HZ0.out HZ1.out HZ2.out rfl (by decide) _ 0 [] rfl ?c0 ⟨gw, 0, none⟩ n cw cs rfl HXL.out ?c1 HO.out ?c3 ?c4 ?c5 ?_)))
  case c0 => exact World.ownsRow_made W4 #[] 0 (Nat.le_refl _) (Nat.zero_le _) rfl
  case c1 => intro j u hu; rw [add_none, Nat.zero_add]; exact kalloc _ (HC.out j u hu)
  case c3 => simp [maxLen]; omega
  case c4 => omega
  case c5 => simp
  intro v' w2 hown hg _ _
  obtain ⟨g', c', rest, rfl, hge, hnc, hbk⟩ := own_blk (by omega) hown
  have hb2 : Below W4.heap.size W4 w2 := (bnew (Below.refl _ _) _).grown hg (by simp) (fun k hk => by
    have : k = W4.heap.size := by simpa [Value.ownBlock] using hk.symm
    omega)
  have hl0 := hB4.out.1.lt
  have hl1 := hB4.out.2.1.lt
  have hl2 := hB4.out.2.2.1.lt
  have hch := chg_of_below (fun _ => False) hb2
  have d0 := hB4.out.1.chg hch (fun h => h)
  have d1 := hB4.out.2.1.chg hch (fun h => h)
  have d2 := hB4.out.2.2.1.chg hch (fun h => h)
  have hb2' := bseq hB4.out.2.2.2 hb2
  have z0 := d0.free 0
  have q0b : w2.cell? ⟨w.heap.size, 0, none⟩ = some (.slice (some ⟨gw, 0, none⟩) n cw) := d0.cell 0
  have HD := Lib.hid (And.intro d0 (And.intro d1 (And.intro d2 (And.intro hbk hb2'))))
  have HL := Lib.hid (And.intro hl0 (And.intro hl1 (And.intro hl2 (And.intro hge hnc))))
  have hsz := hB4.out.2.2.2.size
  have HSZ := Lib.hid hsz
  have HMW := Lib.hid (HM.out.below (hB4.out.2.2.2))
  have HBW := Lib.hid hb2
  clear hown hg hb2 hl0 hl1 hl2 hch d0 d1 d2 hb2' hge hnc hbk q0 q0a q1 q2 q3 q4 qw hB4 HC hsz
  go_upto_region 37 with fail
  clear z0 q0b
  have e0 := HD.out.1.set 0 (.slice (some ⟨g', 0, none⟩) n c')
  have e1 := HD.out.2.1.other ⟨w.heap.size, 0, none⟩ (.slice (some ⟨g', 0, none⟩) n c') (show w.heap.size + 1 ≠ w.heap.size by omega)
  have e2 := HD.out.2.2.1.other ⟨w.heap.size, 0, none⟩ (.slice (some ⟨g', 0, none⟩) n c') (show w.heap.size + 1 + 1 ≠ w.heap.size by omega)
  have eg := HD.out.2.2.2.1.other ⟨w.heap.size, 0, none⟩ (.slice (some ⟨g', 0, none⟩) n c') (show g' ≠ w.heap.size by have := HL.out; omega)
  have eb : Below w.heap.size w (w2.setCell ⟨w.heap.size, 0, none⟩ (.slice (some ⟨g', 0, none⟩) n c')) := HD.out.2.2.2.2.setCell (by simp) _
  generalize w2.setCell ⟨w.heap.size, 0, none⟩ (.slice (some ⟨g', 0, none⟩) n c') = w3 at e0 e1 e2 eg eb ⊢
  have f0 : w3.cell? ⟨w.heap.size, 0, none⟩ = some (.slice (some ⟨g', 0, none⟩) n c') := e0.cell 0
  have f1 : w3.cell? ⟨w.heap.size + 1, 1, none⟩ = some (.int .i64 a) := e1.cell 1
  have hac : a < cs.length := by have := HXL.out; omega
  obtain ⟨u, hu⟩ : ∃ u, w3.cell? ⟨g', a, none⟩ = some u := ⟨_, by rw [eg.cell a, List.getElem?_append_left hac, List.getElem?_eq_getElem hac]⟩
  have zg := eg.free a
  have HE := Lib.hid (And.intro e0 (And.intro e1 (And.intro e2 (And.intro eg eb))))
  clear e0 e1 e2 eg eb hac HD
  go_upto_region 38 with fail
  clear f0 f1 hu zg
  have hgN : g' ≠ w.heap.size ∧ g' ≠ w.heap.size + 1 ∧ g' ≠ w.heap.size + 1 + 1 := by have := HL.out; omega
  have e0 := HE.out.1.other ⟨g', a, none⟩ (.int .u64 (v1 : Nat)) (fun e => hgN.1 e.symm)
  have e1 := HE.out.2.1.other ⟨g', a, none⟩ (.int .u64 (v1 : Nat)) (fun e => hgN.2.1 e.symm)
  have e2 := HE.out.2.2.1.other ⟨g', a, none⟩ (.int .u64 (v1 : Nat)) (fun e => hgN.2.2 e.symm)
  have eg := HE.out.2.2.2.1.set a (.int .u64 (v1 : Nat))
  have eb : Below w.heap.size w (w3.setCell ⟨g', a, none⟩ (.int .u64 (v1 : Nat))) := HE.out.2.2.2.2.setCell (by have := HL.out; have := HSZ.out; show w.heap.size ≤ g'; omega) _
  generalize w3.setCell ⟨g', a, none⟩ (.int .u64 (v1 : Nat)) = w4 at e0 e1 e2 eg eb ⊢
  have f0 : w4.cell? ⟨w.heap.size, 0, none⟩ = some (.slice (some ⟨g', 0, none⟩) n c') := e0.cell 0
  have f1 := e0.cell 1
  have f2 := e0.cell 2
  have f3 := e0.cell 3
  have f4 := e0.cell 4
  have f5 := e0.cell 5
  have f6 := e0.cell 6
  have f7 := e0.cell 7
  have f8 := e0.cell 8
  have f9 := e0.cell 9
  have h0 : w4.cell? ⟨w.heap.size + 1, 0, none⟩ = some (.int .i64 2) := e1.cell 0
  have z0 := e2.free 0
  have z1 := e2.free 1
  have z2 := e2.free 2
  have z3 := e2.free 3
  have z4 := e2.free 4
  have z5 := e2.free 5
  have z6 := e2.free 6
  have z7 := e2.free 7
  have z8 := e2.free 8
  have z9 := e2.free 9
  have y0 := e2.cell 0
  have y1 := e2.cell 1
  have y2 := e2.cell 2
  have y3 := e2.cell 3
  have y4 := e2.cell 4
  have y5 := e2.cell 5
  have y6 := e2.cell 6
  have y7 := e2.cell 7
  have y8 := e2.cell 8
  have y9 := e2.cell 9
  have HF := Lib.hid (And.intro e2 (And.intro eg eb))
  clear e0 e1 e2 eg eb hgN HE
  simp only [List.set_cons_zero, List.getElem?_cons_succ, List.getElem?_cons_zero] at f1 f2 f3 f4 f5 f6 f7 f8 f9 y0 y1 y2 y3 y4 y5 y6 y7 y8 y9
  go_wp2
  clear f0 f1 f2 f3 f4 f5 f6 f7 f8 f9 h0 z0 z1 z2 z3 z4 z5 z6 z7 z8 z9 y0 y1 y2 y3 y4 y5 y6 y7 y8 y9
  obtain ⟨b2, hch⟩ := set10 HF.out.1 (.slice (some ⟨g', 0, none⟩) n c') (.slice (some ⟨gb, 0, none⟩) n n) (.int .i64 c0) (.int .i64 c1) (.int .i64 (wrap64 (c2 + 1))) (.int .i64 c3) (.int .i64 c4) (.int .i64 c5) (.int .i64 (-1)) (.bool false)
  generalize ((((((((((w4.setCell ⟨w.heap.size + 1 + 1, 0, none⟩ (.slice (some ⟨g', 0, none⟩) n c')).setCell ⟨w.heap.size + 1 + 1, 1, none⟩ (.slice (some ⟨gb, 0, none⟩) n n)).setCell ⟨w.heap.size + 1 + 1, 2, none⟩ (.int .i64 c0)).setCell ⟨w.heap.size + 1 + 1, 3, none⟩ (.int .i64 c1)).setCell ⟨w.heap.size + 1 + 1, 4, none⟩ (.int .i64 (wrap64 (c2 + 1)))).setCell ⟨w.heap.size + 1 + 1, 5, none⟩ (.int .i64 c3)).setCell ⟨w.heap.size + 1 + 1, 6, none⟩ (.int .i64 c4)).setCell ⟨w.heap.size + 1 + 1, 7, none⟩ (.int .i64 c5)).setCell ⟨w.heap.size + 1 + 1, 8, none⟩ (.int .i64 (-1))).setCell ⟨w.heap.size + 1 + 1, 9, none⟩ (.bool false)) = w5 at b2 hch ⊢
  have hgn : g' ≠ w.heap.size + 1 + 1 := by have := HL.out; omega
  have hbk : Blk w5 g' 40 (wordVals (ws.set a (v1)) ++ rest) := by
    have h := HF.out.2.1.chg hch (fun e => hgn e)
    rw [List.set_append_left _ _ (by have := HXL.out; omega), ← HCS.out] at h
    unfold wordVals at h ⊢
    rw [List.map_set]; exact h
  have hbel : Below w.heap.size w w5 := Chg.below HF.out.2.2 hch HF.out.2.2.size (fun k hk => by omega)
  have hmk : Blk w5 gb 4 (List.replicate ws.length (.bool false)) := HM.out.marks.chg (chg_of_below (fun _ => False) hbel) (fun h => h)
  have hgl : gb < w.heap.size := HM.out.marks.lt
  have hRef : RefAt w5 g' gb (ws.set a (v1)) := ⟨⟨rest, hbk⟩, by rw [List.length_set]; exact hmk, by have := HL.out; have := HSZ.out; omega, by rw [List.length_set]; exact HM.out.pos, by rw [List.length_set]; exact HM.out.most, fun z hz => by
    rcases List.mem_or_eq_of_mem_set hz with h' | h'
    · exact HM.out.fit z h'
    · have := HYF.out; (try rw [HX.out] at this); rw [h']; exact this⟩
  have l0 := b2.cell 0
  have l1 := b2.cell 1
  have l2 := b2.cell 2
  have l3 := b2.cell 3
  have l4 := b2.cell 4
  have l5 := b2.cell 5
  have l6 := b2.cell 6
  have l7 := b2.cell 7
  have l8 := b2.cell 8
  have l9 := b2.cell 9
  simp only [List.getElem?_cons_succ, List.getElem?_cons_zero] at l0 l1 l2 l3 l4 l5 l6 l7 l8 l9
  refine bodyPost_ret (v := .tuple #[.agg #[.slice (some ⟨g', 0, none⟩) n c', .slice (some ⟨gb, 0, none⟩) n n, .int .i64 c0, .int .i64 c1, .int .i64 (wrap64 (c2 + 1)), .int .i64 c3, .int .i64 c4, .int .i64 c5, .int .i64 (-1), .bool false], .int .u64 (0 : Nat), .bool true]) (by simp [results, Try.results31, go_sem, l0, l1, l2, l3, l4, l5, l6, l7, l8, l9]) rfl ⟨g', c', _, _, _, _, _, _, by rw [List.length_set, HN.out], hRef, by have := HL.out; have := HSZ.out; omega, hbel⟩

set_option maxHeartbeats 2000000 in
set_option maxRecDepth 100000 in
theorem refswap0_calls (gw cw gb : Nat) (c0 c1 c2 c3 c4 c5 : Int) (ws : List Nat) (a v0 v1 v2 v3 : Nat) (w : World) (hm : RefAt w gw gb ws) (ha : a < ws.length) (he : ¬ ws.getD a 0 = v0) :
    Calls Try.prog 31 #[.agg #[.slice (some ⟨gw, 0, none⟩) ws.length cw, .slice (some ⟨gb, 0, none⟩) ws.length ws.length, .int .i64 c0, .int .i64 c1, .int .i64 c2, .int .i64 c3, .int .i64 c4, .int .i64 c5, .int .i64 (-1), .bool false],
      .agg #[.int .i64 2, .int .i64 a, .int .u64 v0, .int .u64 v1, .int .u64 v2, .int .u64 v3]] w fun e w' => RefTold w gb (ws.set a (ws.getD a 0)) (0) false e w' := by
  have HYF : Hid (ws.getD a 0 < 18446744073709551616) := Lib.hid (hm.getD_lt a)
  have HB := Lib.hid (fun c0 c1 c2 c3 c4 c5 W (h : RefAt W gw gb ws) => refbad_calls gw cw gb c0 c1 c2 c3 c4 c5 ws a W h ha)
  have HM := Lib.hid hm
  have hmost := hm.most
  have hal : (a : Int) < (ws.length : Int) := by omega
  have ha0 : (0 : Int) ≤ (a : Int) := by omega
  have HEQ := Lib.hid he
  clear he
  clear hm ha
  obtain ⟨x, hx⟩ : ∃ x, ws.getD a 0 = x := ⟨_, rfl⟩
  have HX := Lib.hid hx
  obtain ⟨n, hn⟩ : ∃ n, ws.length = n := ⟨_, rfl⟩
  rw [hn] at HB hmost hal ⊢
  have HN := Lib.hid hn
  have K1 : Hid (∀ W : World, Below w.heap.size w W → W.cell? ⟨gw, a, none⟩ = some (.int .u64 (x : Nat))) := Lib.hid (fun W hb => by rw [← hx]; exact kcell hb (HM.out.word a (by rw [hn]; omega)))
  (try rw [hx])
  clear hn hx
  obtain ⟨W4, hW4⟩ : ∃ W4, W4 = (((w.alloc (Obj.cells #[.slice (some ⟨gw, 0, none⟩) n cw, .slice (some ⟨gb, 0, none⟩) n n, .int .i64 c0, .int .i64 c1, .int .i64 (wrap64 (c2 + 1)), .int .i64 c3, .int .i64 c4, .int .i64 c5, .int .i64 (-1), .bool false] 34)).alloc (Obj.cells #[.int .i64 2, .int .i64 a, .int .u64 v0, .int .u64 v1, .int .u64 v2, .int .u64 v3] 81)).alloc (Obj.cells #[.slice none 0 0, .slice none 0 0, .int .i64 0, .int .i64 0, .int .i64 0, .int .i64 0, .int .i64 0, .int .i64 0, .int .i64 0, .bool false] 34)).alloc (Obj.cells #[.slice (some ⟨gw, 0, none⟩) n cw, .slice (some ⟨gb, 0, none⟩) n n, .int .i64 c0, .int .i64 c1, .int .i64 (wrap64 (c2 + 1)), .int .i64 c3, .int .i64 c4, .int .i64 c5, .int .i64 (-1), .bool false] 34) := ⟨_, rfl⟩
  have b0 : Blk W4 w.heap.size 34 (Array.toList #[.slice (some ⟨gw, 0, none⟩) n cw, .slice (some ⟨gb, 0, none⟩) n n, .int .i64 c0, .int .i64 c1, .int .i64 (wrap64 (c2 + 1)), .int .i64 c3, .int .i64 c4, .int .i64 c5, .int .i64 (-1), .bool false]) := by rw [hW4]; exact (((blk_new w 34 _ _ rfl).alloc _).alloc _).alloc _
  have b1 : Blk W4 (w.heap.size + 1) 81 (Array.toList #[.int .i64 2, .int .i64 a, .int .u64 v0, .int .u64 v1, .int .u64 v2, .int .u64 v3]) := by
    have b := blk_new (w.alloc (Obj.cells #[.slice (some ⟨gw, 0, none⟩) n cw, .slice (some ⟨gb, 0, none⟩) n n, .int .i64 c0, .int .i64 c1, .int .i64 (wrap64 (c2 + 1)), .int .i64 c3, .int .i64 c4, .int .i64 c5, .int .i64 (-1), .bool false] 34)) 81 #[.int .i64 2, .int .i64 a, .int .u64 v0, .int .u64 v1, .int .u64 v2, .int .u64 v3] _ rfl
    simp only [World.size_alloc] at b
    rw [hW4]; exact (b.alloc _).alloc _
  have b2 : Blk W4 (w.heap.size + 1 + 1) 34 (Array.toList #[.slice none 0 0, .slice none 0 0, .int .i64 0, .int .i64 0, .int .i64 0, .int .i64 0, .int .i64 0, .int .i64 0, .int .i64 0, .bool false]) := by
    have b := blk_new ((w.alloc (Obj.cells #[.slice (some ⟨gw, 0, none⟩) n cw, .slice (some ⟨gb, 0, none⟩) n n, .int .i64 c0, .int .i64 c1, .int .i64 (wrap64 (c2 + 1)), .int .i64 c3, .int .i64 c4, .int .i64 c5, .int .i64 (-1), .bool false] 34)).alloc (Obj.cells #[.int .i64 2, .int .i64 a, .int .u64 v0, .int .u64 v1, .int .u64 v2, .int .u64 v3] 81)) 34 #[.slice none 0 0, .slice none 0 0, .int .i64 0, .int .i64 0, .int .i64 0, .int .i64 0, .int .i64 0, .int .i64 0, .int .i64 0, .bool false] _ rfl
    simp only [World.size_alloc] at b
    rw [hW4]; exact b.alloc _
  have hb4 : Below w.heap.size w W4 := by rw [hW4]; exact bnew (bnew (bnew (bnew (Below.refl _ _) _) _) _) _
  have hB4 := Lib.hid (And.intro b0 (And.intro b1 (And.intro b2 hb4)))
  have HW4 := Lib.hid hW4
  clear b0 b1 b2 hb4 hW4
  obtain ⟨i0, hi, hz⟩ := Option.map_eq_some_iff.1 info_u64
  simp only [Prod.mk.injEq] at hz
  obtain ⟨hz0, hz1, hz2⟩ := hz
  have HI := Lib.hid hi; have HZ0 := Lib.hid hz0; have HZ1 := Lib.hid hz1; have HZ2 := Lib.hid hz2
  clear hi hz0 hz1 hz2
  have HC : Hid (∀ j u, (wordVals ws)[j]? = some u → W4.cell? ⟨gw, j, none⟩ = some u) := Lib.hid (fun j u hu => by
    obtain ⟨r, hb⟩ := (HM.out.below hB4.out.2.2.2).words
    rw [hb.cell j, List.getElem?_append_left (by rcases Nat.lt_or_ge j (wordVals ws).length with h | h; exact h; rw [List.getElem?_eq_none h] at hu; cases hu)]
    exact hu)
  have HXL : Hid ((wordVals ws).length = n * 1) := Lib.hid (by simp [wordVals, HN.out])
  have HO : Hid (∀ v ∈ wordVals ws, v.oneCell' = true) := Lib.hid (by
    intro v hv
    simp [wordVals] at hv
    obtain ⟨z, _, rfl⟩ := hv
    rfl)
  generalize hcs : wordVals ws = cs at HXL HO HC
  have HCS := Lib.hid hcs
  clear hcs
  go_enter Try.func31, Try.ntmps31
  go_wp2_with fail
  refine (HB.out _ _ _ _ _ _ _ (HM.out.below (bnew (bnew (bnew (Below.refl _ _) _) _) _))).mono ?_; rintro e w' ⟨rfl, rfl⟩
  go_upto_region 14 with fail
  rw [← HW4.out]
  clear HW4
  have q0 : W4.cell? ⟨w.heap.size, 0, none⟩ = some (.slice (some ⟨gw, 0, none⟩) n cw) := hB4.out.1.cell 0
  have q1 : W4.cell? ⟨w.heap.size + 1, 0, none⟩ = some (.int .i64 2) := hB4.out.2.1.cell 0
  have q2 : W4.cell? ⟨w.heap.size + 1, 1, none⟩ = some (.int .i64 a) := hB4.out.2.1.cell 1
  have q3 : W4.cell? ⟨w.heap.size + 1, 2, none⟩ = some (.int .u64 v0) := hB4.out.2.1.cell 2
  have q4 : W4.cell? ⟨w.heap.size + 1, 3, none⟩ = some (.int .u64 v1) := hB4.out.2.1.cell 3
  have qw : W4.cell? ⟨gw, a, none⟩ = some (.int .u64 (x : Nat)) := K1.out W4 hB4.out.2.2.2
  have heq : ((x : Int) == (v0 : Int)) = false := by have := HEQ.out; rw [HX.out] at this; rw [beq_eq_false_iff_ne]; omega
  go_upto_region 36 with fail
  have q0a := fun o => kalloc o q0
  go_wp2_with (first | (at_builtin; (refine wpList_append_own_at _ rfl (.tmp 138) (.tmp 140) 30 rfl W4.heap.size 40 i0 (.int .u64 0) 1 8 Try.underlying30 HI.out HZ0.out HZ1.out HZ2.out rfl (by decide) _ 0 [] rfl ?c0 ⟨gw, 0, none⟩ n cw cs rfl HXL.out ?c1 HO.out ?c3 ?c4 ?c5 ?_)))
  case c0 => exact World.ownsRow_made W4 #[] 0 (Nat.le_refl _) (Nat.zero_le _) rfl
  case c1 => intro j u hu; rw [add_none, Nat.zero_add]; exact kalloc _ (HC.out j u hu)
  case c3 => simp [maxLen]; omega
  case c4 => omega
  case c5 => simp
  intro v' w2 hown hg _ _
  obtain ⟨g', c', rest, rfl, hge, hnc, hbk⟩ := own_blk (by omega) hown
  have hb2 : Below W4.heap.size W4 w2 := (bnew (Below.refl _ _) _).grown hg (by simp) (fun k hk => by
    have : k = W4.heap.size := by simpa [Value.ownBlock] using hk.symm
    omega)
  have hl0 := hB4.out.1.lt
  have hl1 := hB4.out.2.1.lt
  have hl2 := hB4.out.2.2.1.lt
  have hch := chg_of_below (fun _ => False) hb2
  have d0 := hB4.out.1.chg hch (fun h => h)
  have d1 := hB4.out.2.1.chg hch (fun h => h)
  have d2 := hB4.out.2.2.1.chg hch (fun h => h)
  have hb2' := bseq hB4.out.2.2.2 hb2
  have z0 := d0.free 0
  have q0b : w2.cell? ⟨w.heap.size, 0, none⟩ = some (.slice (some ⟨gw, 0, none⟩) n cw) := d0.cell 0
  have HD := Lib.hid (And.intro d0 (And.intro d1 (And.intro d2 (And.intro hbk hb2'))))
  have HL := Lib.hid (And.intro hl0 (And.intro hl1 (And.intro hl2 (And.intro hge hnc))))
  have hsz := hB4.out.2.2.2.size
  have HSZ := Lib.hid hsz
  have HMW := Lib.hid (HM.out.below (hB4.out.2.2.2))
  have HBW := Lib.hid hb2
  clear hown hg hb2 hl0 hl1 hl2 hch d0 d1 d2 hb2' hge hnc hbk q0 q0a q1 q2 q3 q4 qw hB4 HC hsz
  go_upto_region 37 with fail
  clear z0 q0b
  have e0 := HD.out.1.set 0 (.slice (some ⟨g', 0, none⟩) n c')
  have e1 := HD.out.2.1.other ⟨w.heap.size, 0, none⟩ (.slice (some ⟨g', 0, none⟩) n c') (show w.heap.size + 1 ≠ w.heap.size by omega)
  have e2 := HD.out.2.2.1.other ⟨w.heap.size, 0, none⟩ (.slice (some ⟨g', 0, none⟩) n c') (show w.heap.size + 1 + 1 ≠ w.heap.size by omega)
  have eg := HD.out.2.2.2.1.other ⟨w.heap.size, 0, none⟩ (.slice (some ⟨g', 0, none⟩) n c') (show g' ≠ w.heap.size by have := HL.out; omega)
  have eb : Below w.heap.size w (w2.setCell ⟨w.heap.size, 0, none⟩ (.slice (some ⟨g', 0, none⟩) n c')) := HD.out.2.2.2.2.setCell (by simp) _
  generalize w2.setCell ⟨w.heap.size, 0, none⟩ (.slice (some ⟨g', 0, none⟩) n c') = w3 at e0 e1 e2 eg eb ⊢
  have f0 : w3.cell? ⟨w.heap.size, 0, none⟩ = some (.slice (some ⟨g', 0, none⟩) n c') := e0.cell 0
  have f1 : w3.cell? ⟨w.heap.size + 1, 1, none⟩ = some (.int .i64 a) := e1.cell 1
  have hac : a < cs.length := by have := HXL.out; omega
  obtain ⟨u, hu⟩ : ∃ u, w3.cell? ⟨g', a, none⟩ = some u := ⟨_, by rw [eg.cell a, List.getElem?_append_left hac, List.getElem?_eq_getElem hac]⟩
  have zg := eg.free a
  have HE := Lib.hid (And.intro e0 (And.intro e1 (And.intro e2 (And.intro eg eb))))
  clear e0 e1 e2 eg eb hac HD
  go_upto_region 38 with fail
  clear f0 f1 hu zg
  have hgN : g' ≠ w.heap.size ∧ g' ≠ w.heap.size + 1 ∧ g' ≠ w.heap.size + 1 + 1 := by have := HL.out; omega
  have e0 := HE.out.1.other ⟨g', a, none⟩ (.int .u64 (x : Nat)) (fun e => hgN.1 e.symm)
  have e1 := HE.out.2.1.other ⟨g', a, none⟩ (.int .u64 (x : Nat)) (fun e => hgN.2.1 e.symm)
  have e2 := HE.out.2.2.1.other ⟨g', a, none⟩ (.int .u64 (x : Nat)) (fun e => hgN.2.2 e.symm)
  have eg := HE.out.2.2.2.1.set a (.int .u64 (x : Nat))
  have eb : Below w.heap.size w (w3.setCell ⟨g', a, none⟩ (.int .u64 (x : Nat))) := HE.out.2.2.2.2.setCell (by have := HL.out; have := HSZ.out; show w.heap.size ≤ g'; omega) _
  generalize w3.setCell ⟨g', a, none⟩ (.int .u64 (x : Nat)) = w4 at e0 e1 e2 eg eb ⊢
  have f0 : w4.cell? ⟨w.heap.size, 0, none⟩ = some (.slice (some ⟨g', 0, none⟩) n c') := e0.cell 0
  have f1 := e0.cell 1
  have f2 := e0.cell 2
  have f3 := e0.cell 3
  have f4 := e0.cell 4
  have f5 := e0.cell 5
  have f6 := e0.cell 6
  have f7 := e0.cell 7
  have f8 := e0.cell 8
  have f9 := e0.cell 9
  have h0 : w4.cell? ⟨w.heap.size + 1, 0, none⟩ = some (.int .i64 2) := e1.cell 0
  have z0 := e2.free 0
  have z1 := e2.free 1
  have z2 := e2.free 2
  have z3 := e2.free 3
  have z4 := e2.free 4
  have z5 := e2.free 5
  have z6 := e2.free 6
  have z7 := e2.free 7
  have z8 := e2.free 8
  have z9 := e2.free 9
  have y0 := e2.cell 0
  have y1 := e2.cell 1
  have y2 := e2.cell 2
  have y3 := e2.cell 3
  have y4 := e2.cell 4
  have y5 := e2.cell 5
  have y6 := e2.cell 6
  have y7 := e2.cell 7
  have y8 := e2.cell 8
  have y9 := e2.cell 9
  have HF := Lib.hid (And.intro e2 (And.intro eg eb))
  clear e0 e1 e2 eg eb hgN HE
  simp only [List.set_cons_zero, List.getElem?_cons_succ, List.getElem?_cons_zero] at f1 f2 f3 f4 f5 f6 f7 f8 f9 y0 y1 y2 y3 y4 y5 y6 y7 y8 y9
  go_wp2
  clear f0 f1 f2 f3 f4 f5 f6 f7 f8 f9 h0 z0 z1 z2 z3 z4 z5 z6 z7 z8 z9 y0 y1 y2 y3 y4 y5 y6 y7 y8 y9
  obtain ⟨b2, hch⟩ := set10 HF.out.1 (.slice (some ⟨g', 0, none⟩) n c') (.slice (some ⟨gb, 0, none⟩) n n) (.int .i64 c0) (.int .i64 c1) (.int .i64 (wrap64 (c2 + 1))) (.int .i64 c3) (.int .i64 c4) (.int .i64 c5) (.int .i64 (-1)) (.bool false)
  generalize ((((((((((w4.setCell ⟨w.heap.size + 1 + 1, 0, none⟩ (.slice (some ⟨g', 0, none⟩) n c')).setCell ⟨w.heap.size + 1 + 1, 1, none⟩ (.slice (some ⟨gb, 0, none⟩) n n)).setCell ⟨w.heap.size + 1 + 1, 2, none⟩ (.int .i64 c0)).setCell ⟨w.heap.size + 1 + 1, 3, none⟩ (.int .i64 c1)).setCell ⟨w.heap.size + 1 + 1, 4, none⟩ (.int .i64 (wrap64 (c2 + 1)))).setCell ⟨w.heap.size + 1 + 1, 5, none⟩ (.int .i64 c3)).setCell ⟨w.heap.size + 1 + 1, 6, none⟩ (.int .i64 c4)).setCell ⟨w.heap.size + 1 + 1, 7, none⟩ (.int .i64 c5)).setCell ⟨w.heap.size + 1 + 1, 8, none⟩ (.int .i64 (-1))).setCell ⟨w.heap.size + 1 + 1, 9, none⟩ (.bool false)) = w5 at b2 hch ⊢
  have hgn : g' ≠ w.heap.size + 1 + 1 := by have := HL.out; omega
  have hbk : Blk w5 g' 40 (wordVals (ws.set a (x)) ++ rest) := by
    have h := HF.out.2.1.chg hch (fun e => hgn e)
    rw [List.set_append_left _ _ (by have := HXL.out; omega), ← HCS.out] at h
    unfold wordVals at h ⊢
    rw [List.map_set]; exact h
  have hbel : Below w.heap.size w w5 := Chg.below HF.out.2.2 hch HF.out.2.2.size (fun k hk => by omega)
  have hmk : Blk w5 gb 4 (List.replicate ws.length (.bool false)) := HM.out.marks.chg (chg_of_below (fun _ => False) hbel) (fun h => h)
  have hgl : gb < w.heap.size := HM.out.marks.lt
  have hRef : RefAt w5 g' gb (ws.set a (x)) := ⟨⟨rest, hbk⟩, by rw [List.length_set]; exact hmk, by have := HL.out; have := HSZ.out; omega, by rw [List.length_set]; exact HM.out.pos, by rw [List.length_set]; exact HM.out.most, fun z hz => by
    rcases List.mem_or_eq_of_mem_set hz with h' | h'
    · exact HM.out.fit z h'
    · have := HYF.out; (try rw [HX.out] at this); rw [h']; exact this⟩
  have l0 := b2.cell 0
  have l1 := b2.cell 1
  have l2 := b2.cell 2
  have l3 := b2.cell 3
  have l4 := b2.cell 4
  have l5 := b2.cell 5
  have l6 := b2.cell 6
  have l7 := b2.cell 7
  have l8 := b2.cell 8
  have l9 := b2.cell 9
  simp only [List.getElem?_cons_succ, List.getElem?_cons_zero] at l0 l1 l2 l3 l4 l5 l6 l7 l8 l9
  refine bodyPost_ret (v := .tuple #[.agg #[.slice (some ⟨g', 0, none⟩) n c', .slice (some ⟨gb, 0, none⟩) n n, .int .i64 c0, .int .i64 c1, .int .i64 (wrap64 (c2 + 1)), .int .i64 c3, .int .i64 c4, .int .i64 c5, .int .i64 (-1), .bool false], .int .u64 (0 : Nat), .bool false]) (by simp [results, Try.results31, go_sem, l0, l1, l2, l3, l4, l5, l6, l7, l8, l9]) rfl ⟨g', c', _, _, _, _, _, _, by rw [List.length_set, HN.out], hRef, by have := HL.out; have := HSZ.out; omega, hbel⟩

set_option maxHeartbeats 2000000 in
set_option maxRecDepth 100000 in
theorem refor_calls (gw cw gb : Nat) (c0 c1 c2 c3 c4 c5 : Int) (ws : List Nat) (a v0 v1 v2 v3 : Nat) (w : World) (hm : RefAt w gw gb ws) (ha : a < ws.length) (hv : v0 < 18446744073709551616) :
    Calls Try.prog 31 #[.agg #[.slice (some ⟨gw, 0, none⟩) ws.length cw, .slice (some ⟨gb, 0, none⟩) ws.length ws.length, .int .i64 c0, .int .i64 c1, .int .i64 c2, .int .i64 c3, .int .i64 c4, .int .i64 c5, .int .i64 (-1), .bool false],
      .agg #[.int .i64 4, .int .i64 a, .int .u64 v0, .int .u64 v1, .int .u64 v2, .int .u64 v3]] w fun e w' => RefTold w gb (ws.set a (ws.getD a 0 ||| v0)) (ws.getD a 0) false e w' := by
  have HYF : Hid (ws.getD a 0 ||| v0 < 18446744073709551616) := Lib.hid (Nat.or_lt_two_pow (n := 64) (hm.getD_lt a) hv)
  have HB := Lib.hid (fun c0 c1 c2 c3 c4 c5 W (h : RefAt W gw gb ws) => refbad_calls gw cw gb c0 c1 c2 c3 c4 c5 ws a W h ha)
  have HM := Lib.hid hm
  have hmost := hm.most
  have hal : (a : Int) < (ws.length : Int) := by omega
  have ha0 : (0 : Int) ≤ (a : Int) := by omega
  have HOR : Hid (bits .or .u64 (ws.getD a 0 : Nat) (v0 : Nat) = ((ws.getD a 0 ||| v0 : Nat) : Int)) := Lib.hid (u64_or_nat _ _ (hm.getD_lt a) hv)
  clear hv
  clear hm ha
  obtain ⟨x, hx⟩ : ∃ x, ws.getD a 0 = x := ⟨_, rfl⟩
  have HX := Lib.hid hx
  obtain ⟨n, hn⟩ : ∃ n, ws.length = n := ⟨_, rfl⟩
  rw [hn] at HB hmost hal ⊢
  have HN := Lib.hid hn
  have K1 : Hid (∀ W : World, Below w.heap.size w W → W.cell? ⟨gw, a, none⟩ = some (.int .u64 (x : Nat))) := Lib.hid (fun W hb => by rw [← hx]; exact kcell hb (HM.out.word a (by rw [hn]; omega)))
  (try rw [hx])
  clear hn hx
  obtain ⟨W4, hW4⟩ : ∃ W4, W4 = (((w.alloc (Obj.cells #[.slice (some ⟨gw, 0, none⟩) n cw, .slice (some ⟨gb, 0, none⟩) n n, .int .i64 c0, .int .i64 c1, .int .i64 c2, .int .i64 c3, .int .i64 (wrap64 (c4 + 1)), .int .i64 c5, .int .i64 (-1), .bool false] 34)).alloc (Obj.cells #[.int .i64 4, .int .i64 a, .int .u64 v0, .int .u64 v1, .int .u64 v2, .int .u64 v3] 81)).alloc (Obj.cells #[.slice none 0 0, .slice none 0 0, .int .i64 0, .int .i64 0, .int .i64 0, .int .i64 0, .int .i64 0, .int .i64 0, .int .i64 0, .bool false] 34)).alloc (Obj.cells #[.slice (some ⟨gw, 0, none⟩) n cw, .slice (some ⟨gb, 0, none⟩) n n, .int .i64 c0, .int .i64 c1, .int .i64 c2, .int .i64 c3, .int .i64 (wrap64 (c4 + 1)), .int .i64 c5, .int .i64 (-1), .bool false] 34) := ⟨_, rfl⟩
  have b0 : Blk W4 w.heap.size 34 (Array.toList #[.slice (some ⟨gw, 0, none⟩) n cw, .slice (some ⟨gb, 0, none⟩) n n, .int .i64 c0, .int .i64 c1, .int .i64 c2, .int .i64 c3, .int .i64 (wrap64 (c4 + 1)), .int .i64 c5, .int .i64 (-1), .bool false]) := by rw [hW4]; exact (((blk_new w 34 _ _ rfl).alloc _).alloc _).alloc _
  have b1 : Blk W4 (w.heap.size + 1) 81 (Array.toList #[.int .i64 4, .int .i64 a, .int .u64 v0, .int .u64 v1, .int .u64 v2, .int .u64 v3]) := by
    have b := blk_new (w.alloc (Obj.cells #[.slice (some ⟨gw, 0, none⟩) n cw, .slice (some ⟨gb, 0, none⟩) n n, .int .i64 c0, .int .i64 c1, .int .i64 c2, .int .i64 c3, .int .i64 (wrap64 (c4 + 1)), .int .i64 c5, .int .i64 (-1), .bool false] 34)) 81 #[.int .i64 4, .int .i64 a, .int .u64 v0, .int .u64 v1, .int .u64 v2, .int .u64 v3] _ rfl
    simp only [World.size_alloc] at b
    rw [hW4]; exact (b.alloc _).alloc _
  have b2 : Blk W4 (w.heap.size + 1 + 1) 34 (Array.toList #[.slice none 0 0, .slice none 0 0, .int .i64 0, .int .i64 0, .int .i64 0, .int .i64 0, .int .i64 0, .int .i64 0, .int .i64 0, .bool false]) := by
    have b := blk_new ((w.alloc (Obj.cells #[.slice (some ⟨gw, 0, none⟩) n cw, .slice (some ⟨gb, 0, none⟩) n n, .int .i64 c0, .int .i64 c1, .int .i64 c2, .int .i64 c3, .int .i64 (wrap64 (c4 + 1)), .int .i64 c5, .int .i64 (-1), .bool false] 34)).alloc (Obj.cells #[.int .i64 4, .int .i64 a, .int .u64 v0, .int .u64 v1, .int .u64 v2, .int .u64 v3] 81)) 34 #[.slice none 0 0, .slice none 0 0, .int .i64 0, .int .i64 0, .int .i64 0, .int .i64 0, .int .i64 0, .int .i64 0, .int .i64 0, .bool false] _ rfl
    simp only [World.size_alloc] at b
    rw [hW4]; exact b.alloc _
  have hb4 : Below w.heap.size w W4 := by rw [hW4]; exact bnew (bnew (bnew (bnew (Below.refl _ _) _) _) _) _
  have hB4 := Lib.hid (And.intro b0 (And.intro b1 (And.intro b2 hb4)))
  have HW4 := Lib.hid hW4
  clear b0 b1 b2 hb4 hW4
  obtain ⟨i0, hi, hz⟩ := Option.map_eq_some_iff.1 info_u64
  simp only [Prod.mk.injEq] at hz
  obtain ⟨hz0, hz1, hz2⟩ := hz
  have HI := Lib.hid hi; have HZ0 := Lib.hid hz0; have HZ1 := Lib.hid hz1; have HZ2 := Lib.hid hz2
  clear hi hz0 hz1 hz2
  have HC : Hid (∀ j u, (wordVals ws)[j]? = some u → W4.cell? ⟨gw, j, none⟩ = some u) := Lib.hid (fun j u hu => by
    obtain ⟨r, hb⟩ := (HM.out.below hB4.out.2.2.2).words
    rw [hb.cell j, List.getElem?_append_left (by rcases Nat.lt_or_ge j (wordVals ws).length with h | h; exact h; rw [List.getElem?_eq_none h] at hu; cases hu)]
    exact hu)
  have HXL : Hid ((wordVals ws).length = n * 1) := Lib.hid (by simp [wordVals, HN.out])
  have HO : Hid (∀ v ∈ wordVals ws, v.oneCell' = true) := Lib.hid (by
    intro v hv
    simp [wordVals] at hv
    obtain ⟨z, _, rfl⟩ := hv
    rfl)
  generalize hcs : wordVals ws = cs at HXL HO HC
  have HCS := Lib.hid hcs
  clear hcs
  go_enter Try.func31, Try.ntmps31
  go_wp2_with fail
  refine (HB.out _ _ _ _ _ _ _ (HM.out.below (bnew (bnew (bnew (Below.refl _ _) _) _) _))).mono ?_; rintro e w' ⟨rfl, rfl⟩
  go_upto_region 14 with fail
  rw [← HW4.out]
  clear HW4
  have q0 : W4.cell? ⟨w.heap.size, 0, none⟩ = some (.slice (some ⟨gw, 0, none⟩) n cw) := hB4.out.1.cell 0
  have q1 : W4.cell? ⟨w.heap.size + 1, 0, none⟩ = some (.int .i64 4) := hB4.out.2.1.cell 0
  have q2 : W4.cell? ⟨w.heap.size + 1, 1, none⟩ = some (.int .i64 a) := hB4.out.2.1.cell 1
  have q3 : W4.cell? ⟨w.heap.size + 1, 2, none⟩ = some (.int .u64 v0) := hB4.out.2.1.cell 2
  have q4 : W4.cell? ⟨w.heap.size + 1, 3, none⟩ = some (.int .u64 v1) := hB4.out.2.1.cell 3
  have qw : W4.cell? ⟨gw, a, none⟩ = some (.int .u64 (x : Nat)) := K1.out W4 hB4.out.2.2.2
  have hor : bits .or .u64 (x : Int) (v0 : Int) = ((x ||| v0 : Nat) : Int) := by have := HOR.out; rw [HX.out] at this; exact this
  go_upto_region 36 with fail
  have q0a := fun o => kalloc o q0
  go_wp2_with (first | (at_builtin; (refine wpList_append_own_at _ rfl (.tmp 138) (.tmp 140) 30 rfl W4.heap.size 40 i0 (.int .u64 0) 1 8 Try.underlying30 HI.out HZ0.out HZ1.out HZ2.out rfl (by decide) _ 0 [] rfl ?c0 ⟨gw, 0, none⟩ n cw cs rfl HXL.out ?c1 HO.out ?c3 ?c4 ?c5 ?_)))
  case c0 => exact World.ownsRow_made W4 #[] 0 (Nat.le_refl _) (Nat.zero_le _) rfl
  case c1 => intro j u hu; rw [add_none, Nat.zero_add]; exact kalloc _ (HC.out j u hu)
  case c3 => simp [maxLen]; omega
  case c4 => omega
  case c5 => simp
  intro v' w2 hown hg _ _
  obtain ⟨g', c', rest, rfl, hge, hnc, hbk⟩ := own_blk (by omega) hown
  have hb2 : Below W4.heap.size W4 w2 := (bnew (Below.refl _ _) _).grown hg (by simp) (fun k hk => by
    have : k = W4.heap.size := by simpa [Value.ownBlock] using hk.symm
    omega)
  have hl0 := hB4.out.1.lt
  have hl1 := hB4.out.2.1.lt
  have hl2 := hB4.out.2.2.1.lt
  have hch := chg_of_below (fun _ => False) hb2
  have d0 := hB4.out.1.chg hch (fun h => h)
  have d1 := hB4.out.2.1.chg hch (fun h => h)
  have d2 := hB4.out.2.2.1.chg hch (fun h => h)
  have hb2' := bseq hB4.out.2.2.2 hb2
  have z0 := d0.free 0
  have q0b : w2.cell? ⟨w.heap.size, 0, none⟩ = some (.slice (some ⟨gw, 0, none⟩) n cw) := d0.cell 0
  have HD := Lib.hid (And.intro d0 (And.intro d1 (And.intro d2 (And.intro hbk hb2'))))
  have HL := Lib.hid (And.intro hl0 (And.intro hl1 (And.intro hl2 (And.intro hge hnc))))
  have hsz := hB4.out.2.2.2.size
  have HSZ := Lib.hid hsz
  have HMW := Lib.hid (HM.out.below (hB4.out.2.2.2))
  have HBW := Lib.hid hb2
  clear hown hg hb2 hl0 hl1 hl2 hch d0 d1 d2 hb2' hge hnc hbk q0 q0a q1 q2 q3 q4 qw hB4 HC hsz
  go_upto_region 37 with fail
  clear z0 q0b
  have e0 := HD.out.1.set 0 (.slice (some ⟨g', 0, none⟩) n c')
  have e1 := HD.out.2.1.other ⟨w.heap.size, 0, none⟩ (.slice (some ⟨g', 0, none⟩) n c') (show w.heap.size + 1 ≠ w.heap.size by omega)
  have e2 := HD.out.2.2.1.other ⟨w.heap.size, 0, none⟩ (.slice (some ⟨g', 0, none⟩) n c') (show w.heap.size + 1 + 1 ≠ w.heap.size by omega)
  have eg := HD.out.2.2.2.1.other ⟨w.heap.size, 0, none⟩ (.slice (some ⟨g', 0, none⟩) n c') (show g' ≠ w.heap.size by have := HL.out; omega)
  have eb : Below w.heap.size w (w2.setCell ⟨w.heap.size, 0, none⟩ (.slice (some ⟨g', 0, none⟩) n c')) := HD.out.2.2.2.2.setCell (by simp) _
  generalize w2.setCell ⟨w.heap.size, 0, none⟩ (.slice (some ⟨g', 0, none⟩) n c') = w3 at e0 e1 e2 eg eb ⊢
  have f0 : w3.cell? ⟨w.heap.size, 0, none⟩ = some (.slice (some ⟨g', 0, none⟩) n c') := e0.cell 0
  have f1 : w3.cell? ⟨w.heap.size + 1, 1, none⟩ = some (.int .i64 a) := e1.cell 1
  have hac : a < cs.length := by have := HXL.out; omega
  obtain ⟨u, hu⟩ : ∃ u, w3.cell? ⟨g', a, none⟩ = some u := ⟨_, by rw [eg.cell a, List.getElem?_append_left hac, List.getElem?_eq_getElem hac]⟩
  have zg := eg.free a
  have HE := Lib.hid (And.intro e0 (And.intro e1 (And.intro e2 (And.intro eg eb))))
  clear e0 e1 e2 eg eb hac HD
  go_upto_region 38 with fail
  clear f0 f1 hu zg
  have hgN : g' ≠ w.heap.size ∧ g' ≠ w.heap.size + 1 ∧ g' ≠ w.heap.size + 1 + 1 := by have := HL.out; omega
  have e0 := HE.out.1.other ⟨g', a, none⟩ (.int .u64 (x ||| v0 : Nat)) (fun e => hgN.1 e.symm)
  have e1 := HE.out.2.1.other ⟨g', a, none⟩ (.int .u64 (x ||| v0 : Nat)) (fun e => hgN.2.1 e.symm)
  have e2 := HE.out.2.2.1.other ⟨g', a, none⟩ (.int .u64 (x ||| v0 : Nat)) (fun e => hgN.2.2 e.symm)
  have eg := HE.out.2.2.2.1.set a (.int .u64 (x ||| v0 : Nat))
  have eb : Below w.heap.size w (w3.setCell ⟨g', a, none⟩ (.int .u64 (x ||| v0 : Nat))) := HE.out.2.2.2.2.setCell (by have := HL.out; have := HSZ.out; show w.heap.size ≤ g'; omega) _
  generalize w3.setCell ⟨g', a, none⟩ (.int .u64 (x ||| v0 : Nat)) = w4 at e0 e1 e2 eg eb ⊢
  have f0 : w4.cell? ⟨w.heap.size, 0, none⟩ = some (.slice (some ⟨g', 0, none⟩) n c') := e0.cell 0
  have f1 := e0.cell 1
  have f2 := e0.cell 2
  have f3 := e0.cell 3
  have f4 := e0.cell 4
  have f5 := e0.cell 5
  have f6 := e0.cell 6
  have f7 := e0.cell 7
  have f8 := e0.cell 8
  have f9 := e0.cell 9
  have h0 : w4.cell? ⟨w.heap.size + 1, 0, none⟩ = some (.int .i64 4) := e1.cell 0
  have z0 := e2.free 0
  have z1 := e2.free 1
  have z2 := e2.free 2
  have z3 := e2.free 3
  have z4 := e2.free 4
  have z5 := e2.free 5
  have z6 := e2.free 6
  have z7 := e2.free 7
  have z8 := e2.free 8
  have z9 := e2.free 9
  have y0 := e2.cell 0
  have y1 := e2.cell 1
  have y2 := e2.cell 2
  have y3 := e2.cell 3
  have y4 := e2.cell 4
  have y5 := e2.cell 5
  have y6 := e2.cell 6
  have y7 := e2.cell 7
  have y8 := e2.cell 8
  have y9 := e2.cell 9
  have HF := Lib.hid (And.intro e2 (And.intro eg eb))
  clear e0 e1 e2 eg eb hgN HE
  simp only [List.set_cons_zero, List.getElem?_cons_succ, List.getElem?_cons_zero] at f1 f2 f3 f4 f5 f6 f7 f8 f9 y0 y1 y2 y3 y4 y5 y6 y7 y8 y9
  go_wp2
  clear f0 f1 f2 f3 f4 f5 f6 f7 f8 f9 h0 z0 z1 z2 z3 z4 z5 z6 z7 z8 z9 y0 y1 y2 y3 y4 y5 y6 y7 y8 y9
  obtain ⟨b2, hch⟩ := set10 HF.out.1 (.slice (some ⟨g', 0, none⟩) n c') (.slice (some ⟨gb, 0, none⟩) n n) (.int .i64 c0) (.int .i64 c1) (.int .i64 c2) (.int .i64 c3) (.int .i64 (wrap64 (c4 + 1))) (.int .i64 c5) (.int .i64 (-1)) (.bool false)
  generalize ((((((((((w4.setCell ⟨w.heap.size + 1 + 1, 0, none⟩ (.slice (some ⟨g', 0, none⟩) n c')).setCell ⟨w.heap.size + 1 + 1, 1, none⟩ (.slice (some ⟨gb, 0, none⟩) n n)).setCell ⟨w.heap.size + 1 + 1, 2, none⟩ (.int .i64 c0)).setCell ⟨w.heap.size + 1 + 1, 3, none⟩ (.int .i64 c1)).setCell ⟨w.heap.size + 1 + 1, 4, none⟩ (.int .i64 c2)).setCell ⟨w.heap.size + 1 + 1, 5, none⟩ (.int .i64 c3)).setCell ⟨w.heap.size + 1 + 1, 6, none⟩ (.int .i64 (wrap64 (c4 + 1)))).setCell ⟨w.heap.size + 1 + 1, 7, none⟩ (.int .i64 c5)).setCell ⟨w.heap.size + 1 + 1, 8, none⟩ (.int .i64 (-1))).setCell ⟨w.heap.size + 1 + 1, 9, none⟩ (.bool false)) = w5 at b2 hch ⊢
  have hgn : g' ≠ w.heap.size + 1 + 1 := by have := HL.out; omega
  have hbk : Blk w5 g' 40 (wordVals (ws.set a (x ||| v0)) ++ rest) := by
    have h := HF.out.2.1.chg hch (fun e => hgn e)
    rw [List.set_append_left _ _ (by have := HXL.out; omega), ← HCS.out] at h
    unfold wordVals at h ⊢
    rw [List.map_set]; exact h
  have hbel : Below w.heap.size w w5 := Chg.below HF.out.2.2 hch HF.out.2.2.size (fun k hk => by omega)
  have hmk : Blk w5 gb 4 (List.replicate ws.length (.bool false)) := HM.out.marks.chg (chg_of_below (fun _ => False) hbel) (fun h => h)
  have hgl : gb < w.heap.size := HM.out.marks.lt
  have hRef : RefAt w5 g' gb (ws.set a (x ||| v0)) := ⟨⟨rest, hbk⟩, by rw [List.length_set]; exact hmk, by have := HL.out; have := HSZ.out; omega, by rw [List.length_set]; exact HM.out.pos, by rw [List.length_set]; exact HM.out.most, fun z hz => by
    rcases List.mem_or_eq_of_mem_set hz with h' | h'
    · exact HM.out.fit z h'
    · have := HYF.out; (try rw [HX.out] at this); rw [h']; exact this⟩
  have l0 := b2.cell 0
  have l1 := b2.cell 1
  have l2 := b2.cell 2
  have l3 := b2.cell 3
  have l4 := b2.cell 4
  have l5 := b2.cell 5
  have l6 := b2.cell 6
  have l7 := b2.cell 7
  have l8 := b2.cell 8
  have l9 := b2.cell 9
  simp only [List.getElem?_cons_succ, List.getElem?_cons_zero] at l0 l1 l2 l3 l4 l5 l6 l7 l8 l9
  refine bodyPost_ret (v := .tuple #[.agg #[.slice (some ⟨g', 0, none⟩) n c', .slice (some ⟨gb, 0, none⟩) n n, .int .i64 c0, .int .i64 c1, .int .i64 c2, .int .i64 c3, .int .i64 (wrap64 (c4 + 1)), .int .i64 c5, .int .i64 (-1), .bool false], .int .u64 (x : Nat), .bool false]) (by simp [results, Try.results31, go_sem, l0, l1, l2, l3, l4, l5, l6, l7, l8, l9]) rfl ⟨g', c', _, _, _, _, _, _, by rw [List.length_set, HN.out], hRef, by have := HL.out; have := HSZ.out; omega, hbel⟩

end Go.Proofs.Ytjmooohhndjmiaa
