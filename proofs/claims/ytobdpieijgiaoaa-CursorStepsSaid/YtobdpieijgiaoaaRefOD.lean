/- the reference's operation (sluicewayref17): Step, some of its cases. (Printed by genref2.py.) -/
import Derived.Test.YtobdpieijgiaoaaRefO
namespace Go.Proofs.Ytobdpieijgiaoaa
open Go.RowKit Go.Deep
set_option linter.unusedVariables false

set_option maxHeartbeats 4000000 in
set_option maxRecDepth 100000 in
theorem refop1cd (gw cw gb : Nat) (c0 c1 c2 c3 c4 c5 : Int) (ws : List Nat) (a s m k p g code : Nat) (n cap : Nat) (w : World) (hm : RefAt w gw gb ws) (wd bq oq : Nat) (hcw : w.cell? ⟨bq, oq + k, none⟩ = some (.int .i64 wd)) (hwd : wd < ws.length) (hkl : k < n) (hnl : n ≤ 64) (hs : s ≤ 1024) (hmm : m ≤ 1024) (hp : p < 18446744073709551616) (hg : g < 18446744073709551616) (hk : ¬ k = 0) (hx : ¬ ws.getD wd 0 < g) (hn : k + 1 < n) :
    Calls Try.prog 22 #[.agg #[.int .i64 a, .int .i64 s, .int .i64 m, .slice (some ⟨bq, oq, none⟩) n cap, .int .i64 1, .int .i64 k, .int .u64 p, .int .u64 g, .int .i64 code], .agg #[.slice (some ⟨gw, 0, none⟩) ws.length cw, .slice (some ⟨gb, 0, none⟩) ws.length ws.length, .int .i64 c0, .int .i64 c1, .int .i64 c2, .int .i64 c3, .int .i64 c4, .int .i64 c5, .int .i64 (-1), .bool false]] w fun e w' => RefTold17 w gw gb ws [.int .i64 a, .int .i64 s, .int .i64 m, .slice (some ⟨bq, oq, none⟩) n cap, .int .i64 1, .int .i64 ((k : Int) + 1), .int .u64 p, .int .u64 g, .int .i64 code] e w' := by
  have HM := Lib.hid hm
  have HL := Lib.hid (fun W (h : RefAt W gw gb ws) => refload_same gw cw gb c0 c1 c2 c3 c4 c5 ws wd W h hwd)
  have hxl := hm.getD_lt wd
  obtain ⟨x, hxx⟩ : ∃ x, ws.getD wd 0 = x := ⟨_, rfl⟩
  rw [hxx] at HL hxl hx
  have ek := wk1 hkl hnl
  have i1 : (k : Int) < (n : Int) := Int.ofNat_lt.2 hkl
  have i0 : (0 : Int) ≤ (k : Int) := Int.natCast_nonneg k
  have tk := kz hk
  have tx := dlt hx
  have tn := dk1 hn
  have cwk := fun o1 o2 o3 o4 o5 => kalloc o5 (kalloc o4 (kalloc o3 (kalloc o2 (kalloc o1 hcw))))
  have HBD := Lib.hid (And.intro hkl hnl)
  clear hwd hcw hxx hk hn hkl hnl hs hmm hp hg hx
  clear hxl
  clear hm
  go_enter Try.func22, Try.ntmps22
  go_wp2_with fail
  obtain ⟨W1, hW1⟩ : ∃ W1, W1 = ((((w.alloc (Obj.cells #[.int .i64 a, .int .i64 s, .int .i64 m, .slice (some ⟨bq, oq, none⟩) n cap, .int .i64 1, .int .i64 k, .int .u64 p, .int .u64 g, .int .i64 code] 62)).alloc (Obj.cells #[.slice (some ⟨gw, 0, none⟩) ws.length cw, .slice (some ⟨gb, 0, none⟩) ws.length ws.length, .int .i64 c0, .int .i64 c1, .int .i64 c2, .int .i64 c3, .int .i64 c4, .int .i64 c5, .int .i64 (-1), .bool false] 56)).alloc (Obj.cells #[.int .i64 0, .int .i64 0, .int .i64 0, .slice none 0 0, .int .i64 0, .int .i64 0, .int .u64 0, .int .u64 0, .int .i64 0] 62)).alloc (Obj.cells #[.slice none 0 0, .slice none 0 0, .int .i64 0, .int .i64 0, .int .i64 0, .int .i64 0, .int .i64 0, .int .i64 0, .int .i64 0, .bool false] 56)).alloc (Obj.cells #[.int .i64 0, .int .i64 wd, .int .u64 0, .int .u64 0, .int .u64 0, .int .u64 0] 80) := ⟨_, rfl⟩
  rw [← hW1]
  have b0 : Blk W1 (w.heap.size) 62 [.int .i64 a, .int .i64 s, .int .i64 m, .slice (some ⟨bq, oq, none⟩) n cap, .int .i64 1, .int .i64 k, .int .u64 p, .int .u64 g, .int .i64 code] := by rw [hW1]; exact ((((blk_new w 62 _ _ rfl).alloc _).alloc _).alloc _).alloc _
  have b2 : Blk W1 (w.heap.size + 1 + 1) 62 [.int .i64 0, .int .i64 0, .int .i64 0, .slice none 0 0, .int .i64 0, .int .i64 0, .int .u64 0, .int .u64 0, .int .i64 0] := by
    have b := blk_new ((w.alloc (Obj.cells #[.int .i64 a, .int .i64 s, .int .i64 m, .slice (some ⟨bq, oq, none⟩) n cap, .int .i64 1, .int .i64 k, .int .u64 p, .int .u64 g, .int .i64 code] 62)).alloc (Obj.cells #[.slice (some ⟨gw, 0, none⟩) ws.length cw, .slice (some ⟨gb, 0, none⟩) ws.length ws.length, .int .i64 c0, .int .i64 c1, .int .i64 c2, .int .i64 c3, .int .i64 c4, .int .i64 c5, .int .i64 (-1), .bool false] 56)) 62 #[.int .i64 0, .int .i64 0, .int .i64 0, .slice none 0 0, .int .i64 0, .int .i64 0, .int .u64 0, .int .u64 0, .int .i64 0] _ rfl
    simp only [World.size_alloc] at b
    rw [hW1]; exact (b.alloc _).alloc _
  have b3 : Blk W1 (w.heap.size + 1 + 1 + 1) 56 [.slice none 0 0, .slice none 0 0, .int .i64 0, .int .i64 0, .int .i64 0, .int .i64 0, .int .i64 0, .int .i64 0, .int .i64 0, .bool false] := by
    have b := blk_new (((w.alloc (Obj.cells #[.int .i64 a, .int .i64 s, .int .i64 m, .slice (some ⟨bq, oq, none⟩) n cap, .int .i64 1, .int .i64 k, .int .u64 p, .int .u64 g, .int .i64 code] 62)).alloc (Obj.cells #[.slice (some ⟨gw, 0, none⟩) ws.length cw, .slice (some ⟨gb, 0, none⟩) ws.length ws.length, .int .i64 c0, .int .i64 c1, .int .i64 c2, .int .i64 c3, .int .i64 c4, .int .i64 c5, .int .i64 (-1), .bool false] 56)).alloc (Obj.cells #[.int .i64 0, .int .i64 0, .int .i64 0, .slice none 0 0, .int .i64 0, .int .i64 0, .int .u64 0, .int .u64 0, .int .i64 0] 62)) 56 #[.slice none 0 0, .slice none 0 0, .int .i64 0, .int .i64 0, .int .i64 0, .int .i64 0, .int .i64 0, .int .i64 0, .int .i64 0, .bool false] _ rfl
    simp only [World.size_alloc] at b
    rw [hW1]; exact b.alloc _
  have hb1 : Below w.heap.size w W1 := by rw [hW1]; exact bnew (bnew (bnew (bnew (bnew (Below.refl _ _) _) _) _) _) _
  have H1 := Lib.hid (And.intro b0 (And.intro b2 (And.intro b3 hb1)))
  clear b0 b2 b3 hb1 hW1
  refine (HL.out W1 (HM.out.below H1.out.2.2.2)).mono ?_; rintro e w2 hto
  obtain ⟨gg, cc, d0, d1, d2, d3, d4, d5, he, hr, hgg, hb⟩ := hto
  (try simp only [List.length_set] at he hr)
  obtain ⟨L, hL⟩ : ∃ L, ws.length = L := ⟨_, rfl⟩
  rw [hL] at he
  have HLL := Lib.hid hL
  clear hL
  subst he
  have hch := chg_of_below (fun _ => False) hb
  have b0 := H1.out.1.chg hch (fun h => h)
  have b2 := H1.out.2.1.chg hch (fun h => h)
  have b3 := H1.out.2.2.1.chg hch (fun h => h)
  have hb2 := bseq H1.out.2.2.2 hb
  have hg0 : w.heap.size ≤ gg := by have := H1.out.2.2.2.size; omega
  have hg1 : gg ≠ w.heap.size ∧ gg ≠ w.heap.size + 1 + 1 ∧ gg ≠ w.heap.size + 1 + 1 + 1 := by have := H1.out.1.lt; have := H1.out.2.1.lt; have := H1.out.2.2.1.lt; omega
  have H2 := Lib.hid (And.intro b0 (And.intro b2 (And.intro b3 (And.intro hb2 (And.intro hr (And.intro hg0 hg1))))))
  clear hch b0 b2 b3 hb2 hr hgg hb hg0 hg1
  go_upto_region 10 with fail
  have b0 := H2.out.1.alloc (Obj.cells #[.slice (some ⟨gg, 0, none⟩) L cc, .slice (some ⟨gb, 0, none⟩) L L, .int .i64 d0, .int .i64 d1, .int .i64 d2, .int .i64 d3, .int .i64 d4, .int .i64 d5, .int .i64 (-1), .bool false] 56)
  have b2 := H2.out.2.1.alloc (Obj.cells #[.slice (some ⟨gg, 0, none⟩) L cc, .slice (some ⟨gb, 0, none⟩) L L, .int .i64 d0, .int .i64 d1, .int .i64 d2, .int .i64 d3, .int .i64 d4, .int .i64 d5, .int .i64 (-1), .bool false] 56)
  have b3 := H2.out.2.2.1.alloc (Obj.cells #[.slice (some ⟨gg, 0, none⟩) L cc, .slice (some ⟨gb, 0, none⟩) L L, .int .i64 d0, .int .i64 d1, .int .i64 d2, .int .i64 d3, .int .i64 d4, .int .i64 d5, .int .i64 (-1), .bool false] 56)
  have bt : Blk (w2.alloc (Obj.cells #[.slice (some ⟨gg, 0, none⟩) L cc, .slice (some ⟨gb, 0, none⟩) L L, .int .i64 d0, .int .i64 d1, .int .i64 d2, .int .i64 d3, .int .i64 d4, .int .i64 d5, .int .i64 (-1), .bool false] 56)) w2.heap.size 56 [.slice (some ⟨gg, 0, none⟩) L cc, .slice (some ⟨gb, 0, none⟩) L L, .int .i64 d0, .int .i64 d1, .int .i64 d2, .int .i64 d3, .int .i64 d4, .int .i64 d5, .int .i64 (-1), .bool false] := blk_new w2 56 _ _ rfl
  have hb3 := bnew H2.out.2.2.2.1 (Obj.cells #[.slice (some ⟨gg, 0, none⟩) L cc, .slice (some ⟨gb, 0, none⟩) L L, .int .i64 d0, .int .i64 d1, .int .i64 d2, .int .i64 d3, .int .i64 d4, .int .i64 d5, .int .i64 (-1), .bool false] 56)
  have hr3 := H2.out.2.2.2.2.1.below (bnew (Below.refl _ _) (Obj.cells #[.slice (some ⟨gg, 0, none⟩) L cc, .slice (some ⟨gb, 0, none⟩) L L, .int .i64 d0, .int .i64 d1, .int .i64 d2, .int .i64 d3, .int .i64 d4, .int .i64 d5, .int .i64 (-1), .bool false] 56))
  have hlt : w.heap.size + 1 + 1 + 1 < w2.heap.size := H2.out.2.2.1.lt
  generalize w2.alloc (Obj.cells #[.slice (some ⟨gg, 0, none⟩) L cc, .slice (some ⟨gb, 0, none⟩) L L, .int .i64 d0, .int .i64 d1, .int .i64 d2, .int .i64 d3, .int .i64 d4, .int .i64 d5, .int .i64 (-1), .bool false] 56) = w3 at b0 b2 b3 bt hb3 hr3 ⊢
  generalize w2.heap.size = tt at bt hlt ⊢
  have f0 : w3.cell? ⟨w.heap.size, 0, none⟩ = some (.int .i64 a) := b0.cell 0
  have f1 : w3.cell? ⟨w.heap.size, 1, none⟩ = some (.int .i64 s) := b0.cell 1
  have f2 : w3.cell? ⟨w.heap.size, 2, none⟩ = some (.int .i64 m) := b0.cell 2
  have f3 : w3.cell? ⟨w.heap.size, 3, none⟩ = some (.slice (some ⟨bq, oq, none⟩) n cap) := b0.cell 3
  have f4 : w3.cell? ⟨w.heap.size, 4, none⟩ = some (.int .i64 1) := b0.cell 4
  have f5 : w3.cell? ⟨w.heap.size, 5, none⟩ = some (.int .i64 k) := b0.cell 5
  have f6 : w3.cell? ⟨w.heap.size, 6, none⟩ = some (.int .u64 p) := b0.cell 6
  have f7 : w3.cell? ⟨w.heap.size, 7, none⟩ = some (.int .u64 g) := b0.cell 7
  have f8 : w3.cell? ⟨w.heap.size, 8, none⟩ = some (.int .i64 code) := b0.cell 8
  have z5 := b0.free 5
  have H3 := Lib.hid (And.intro b0 (And.intro b2 (And.intro b3 (And.intro bt (And.intro hb3 (And.intro hr3 hlt))))))
  clear b0 b2 b3 bt hb3 hr3
  go_upto_region 24 with fail
  have b0 : Blk (w3.setCell ⟨w.heap.size, 5, none⟩ (.int .i64 ((k : Int) + 1))) (w.heap.size) 62 [.int .i64 a, .int .i64 s, .int .i64 m, .slice (some ⟨bq, oq, none⟩) n cap, .int .i64 1, .int .i64 ((k : Int) + 1), .int .u64 p, .int .u64 g, .int .i64 code] := (H3.out.1.set 5 (.int .i64 ((k : Int) + 1)))
  have hch : Chg (fun j => j = w.heap.size) w3 (w3.setCell ⟨w.heap.size, 5, none⟩ (.int .i64 ((k : Int) + 1))) := ((Chg.refl (fun j => j = w.heap.size) w3).setCell ⟨w.heap.size, 5, none⟩ (.int .i64 ((k : Int) + 1)) (fun _ => rfl))
  generalize (w3.setCell ⟨w.heap.size, 5, none⟩ (.int .i64 ((k : Int) + 1))) = w4 at b0 hch ⊢
  have b2 := H3.out.2.1.chg hch (fun e => by omega)
  have b3 := H3.out.2.2.1.chg hch (fun e => by omega)
  have bt := H3.out.2.2.2.1.chg hch (fun e => by have := H3.out.2.2.2.2.2.2; omega)
  have hb4 := Chg.below H3.out.2.2.2.2.1 hch H3.out.2.2.2.2.1.size (fun k hk => by omega)
  have hr4 := H3.out.2.2.2.2.2.1.chg hch (fun e => by have := H2.out.2.2.2.2.2.2.1; omega) (fun e => by have := HM.out.marks.lt; omega)
  clear f0 f1 f2 f3 f4 f5 f6 f7 f8 z5
  have f0 : w4.cell? ⟨w.heap.size, 0, none⟩ = some (.int .i64 a) := b0.cell 0
  have f1 : w4.cell? ⟨w.heap.size, 1, none⟩ = some (.int .i64 s) := b0.cell 1
  have f2 : w4.cell? ⟨w.heap.size, 2, none⟩ = some (.int .i64 m) := b0.cell 2
  have f3 : w4.cell? ⟨w.heap.size, 3, none⟩ = some (.slice (some ⟨bq, oq, none⟩) n cap) := b0.cell 3
  have f4 : w4.cell? ⟨w.heap.size, 4, none⟩ = some (.int .i64 1) := b0.cell 4
  have f5 : w4.cell? ⟨w.heap.size, 5, none⟩ = some (.int .i64 ((k : Int) + 1)) := b0.cell 5
  have f6 : w4.cell? ⟨w.heap.size, 6, none⟩ = some (.int .u64 p) := b0.cell 6
  have f7 : w4.cell? ⟨w.heap.size, 7, none⟩ = some (.int .u64 g) := b0.cell 7
  have f8 : w4.cell? ⟨w.heap.size, 8, none⟩ = some (.int .i64 code) := b0.cell 8
  have t0 : w4.cell? ⟨tt, 0, none⟩ = some (.slice (some ⟨gg, 0, none⟩) L cc) := bt.cell 0
  have t1 : w4.cell? ⟨tt, 1, none⟩ = some (.slice (some ⟨gb, 0, none⟩) L L) := bt.cell 1
  have t2 : w4.cell? ⟨tt, 2, none⟩ = some (.int .i64 d0) := bt.cell 2
  have t3 : w4.cell? ⟨tt, 3, none⟩ = some (.int .i64 d1) := bt.cell 3
  have t4 : w4.cell? ⟨tt, 4, none⟩ = some (.int .i64 d2) := bt.cell 4
  have t5 : w4.cell? ⟨tt, 5, none⟩ = some (.int .i64 d3) := bt.cell 5
  have t6 : w4.cell? ⟨tt, 6, none⟩ = some (.int .i64 d4) := bt.cell 6
  have t7 : w4.cell? ⟨tt, 7, none⟩ = some (.int .i64 d5) := bt.cell 7
  have t8 : w4.cell? ⟨tt, 8, none⟩ = some (.int .i64 (-1)) := bt.cell 8
  have t9 : w4.cell? ⟨tt, 9, none⟩ = some (.bool false) := bt.cell 9
  have g0 : w4.cell? ⟨w.heap.size + 1 + 1, 0, none⟩ = some (.int .i64 0) := b2.cell 0
  have y0 := b2.free 0
  have g1 : w4.cell? ⟨w.heap.size + 1 + 1, 1, none⟩ = some (.int .i64 0) := b2.cell 1
  have y1 := b2.free 1
  have g2 : w4.cell? ⟨w.heap.size + 1 + 1, 2, none⟩ = some (.int .i64 0) := b2.cell 2
  have y2 := b2.free 2
  have g3 : w4.cell? ⟨w.heap.size + 1 + 1, 3, none⟩ = some (.slice none 0 0) := b2.cell 3
  have y3 := b2.free 3
  have g4 : w4.cell? ⟨w.heap.size + 1 + 1, 4, none⟩ = some (.int .i64 0) := b2.cell 4
  have y4 := b2.free 4
  have g5 : w4.cell? ⟨w.heap.size + 1 + 1, 5, none⟩ = some (.int .i64 0) := b2.cell 5
  have y5 := b2.free 5
  have g6 : w4.cell? ⟨w.heap.size + 1 + 1, 6, none⟩ = some (.int .u64 0) := b2.cell 6
  have y6 := b2.free 6
  have g7 : w4.cell? ⟨w.heap.size + 1 + 1, 7, none⟩ = some (.int .u64 0) := b2.cell 7
  have y7 := b2.free 7
  have g8 : w4.cell? ⟨w.heap.size + 1 + 1, 8, none⟩ = some (.int .i64 0) := b2.cell 8
  have y8 := b2.free 8
  have l0 : w4.cell? ⟨w.heap.size + 1 + 1 + 1, 0, none⟩ = some (.slice none 0 0) := b3.cell 0
  have x0 := b3.free 0
  have l1 : w4.cell? ⟨w.heap.size + 1 + 1 + 1, 1, none⟩ = some (.slice none 0 0) := b3.cell 1
  have x1 := b3.free 1
  have l2 : w4.cell? ⟨w.heap.size + 1 + 1 + 1, 2, none⟩ = some (.int .i64 0) := b3.cell 2
  have x2 := b3.free 2
  have l3 : w4.cell? ⟨w.heap.size + 1 + 1 + 1, 3, none⟩ = some (.int .i64 0) := b3.cell 3
  have x3 := b3.free 3
  have l4 : w4.cell? ⟨w.heap.size + 1 + 1 + 1, 4, none⟩ = some (.int .i64 0) := b3.cell 4
  have x4 := b3.free 4
  have l5 : w4.cell? ⟨w.heap.size + 1 + 1 + 1, 5, none⟩ = some (.int .i64 0) := b3.cell 5
  have x5 := b3.free 5
  have l6 : w4.cell? ⟨w.heap.size + 1 + 1 + 1, 6, none⟩ = some (.int .i64 0) := b3.cell 6
  have x6 := b3.free 6
  have l7 : w4.cell? ⟨w.heap.size + 1 + 1 + 1, 7, none⟩ = some (.int .i64 0) := b3.cell 7
  have x7 := b3.free 7
  have l8 : w4.cell? ⟨w.heap.size + 1 + 1 + 1, 8, none⟩ = some (.int .i64 0) := b3.cell 8
  have x8 := b3.free 8
  have l9 : w4.cell? ⟨w.heap.size + 1 + 1 + 1, 9, none⟩ = some (.bool false) := b3.cell 9
  have x9 := b3.free 9
  have H4 := Lib.hid (And.intro b0 (And.intro b2 (And.intro b3 (And.intro bt (And.intro hb4 hr4)))))
  have hn1 : ¬ tt = w.heap.size + 1 + 1 := by omega
  have hn2 : ¬ tt = w.heap.size + 1 + 1 + 1 := by omega
  clear b0 b2 b3 bt hb4 hr4 hch
  go_region
  all_goals go_wp2
  clear f0 f1 f2 f3 f4 f5 f6 f7 f8 t0 t1 t2 t3 t4 t5 t6 t7 t8 t9 g0 y0 g1 y1 g2 y2 g3 y3 g4 y4 g5 y5 g6 y6 g7 y7 g8 y8 l0 x0 l1 x1 l2 x2 l3 x3 l4 x4 l5 x5 l6 x6 l7 x7 l8 x8 l9 x9 hn1 hn2
  obtain ⟨e2, hc2⟩ := set9 H4.out.2.1 (.int .i64 a) (.int .i64 s) (.int .i64 m) (.slice (some ⟨bq, oq, none⟩) n cap) (.int .i64 1) (.int .i64 ((k : Int) + 1)) (.int .u64 p) (.int .u64 g) (.int .i64 code)
  have e3 := H4.out.2.2.1.chg hc2 (fun e => by omega)
  obtain ⟨e3, hc3⟩ := set10 e3 (.slice (some ⟨gg, 0, none⟩) L cc) (.slice (some ⟨gb, 0, none⟩) L L) (.int .i64 d0) (.int .i64 d1) (.int .i64 d2) (.int .i64 d3) (.int .i64 d4) (.int .i64 d5) (.int .i64 (-1)) (.bool false)
  have e2 := e2.chg hc3 (fun e => by omega)
  have hb5 := Chg.below (Chg.below H4.out.2.2.2.2.1 hc2 H4.out.2.2.2.2.1.size (fun k hk => by omega)) hc3 (by have := hc2.size; have := H4.out.2.2.2.2.1.size; omega) (fun k hk => by omega)
  have hgl := HM.out.marks.lt
  have hr5 := (H4.out.2.2.2.2.2.chg hc2 (fun e => by have := H2.out.2.2.2.2.2.2.2.1; omega) (fun e => by omega)).chg hc3 (fun e => by have := H2.out.2.2.2.2.2.2.2.2; omega) (fun e => by omega)
  have e2 := e2.drew
  have e3 := e3.drew
  have hb5 := hb5.drew
  have hr5 := hr5.drew
  generalize (((((((((((((((((((w4.setCell ⟨w.heap.size + 1 + 1, 0, none⟩ (.int .i64 a)).setCell ⟨w.heap.size + 1 + 1, 1, none⟩ (.int .i64 s)).setCell ⟨w.heap.size + 1 + 1, 2, none⟩ (.int .i64 m)).setCell ⟨w.heap.size + 1 + 1, 3, none⟩ (.slice (some ⟨bq, oq, none⟩) n cap)).setCell ⟨w.heap.size + 1 + 1, 4, none⟩ (.int .i64 1)).setCell ⟨w.heap.size + 1 + 1, 5, none⟩ (.int .i64 ((k : Int) + 1))).setCell ⟨w.heap.size + 1 + 1, 6, none⟩ (.int .u64 p)).setCell ⟨w.heap.size + 1 + 1, 7, none⟩ (.int .u64 g)).setCell ⟨w.heap.size + 1 + 1, 8, none⟩ (.int .i64 code)).setCell ⟨w.heap.size + 1 + 1 + 1, 0, none⟩ (.slice (some ⟨gg, 0, none⟩) L cc)).setCell ⟨w.heap.size + 1 + 1 + 1, 1, none⟩ (.slice (some ⟨gb, 0, none⟩) L L)).setCell ⟨w.heap.size + 1 + 1 + 1, 2, none⟩ (.int .i64 d0)).setCell ⟨w.heap.size + 1 + 1 + 1, 3, none⟩ (.int .i64 d1)).setCell ⟨w.heap.size + 1 + 1 + 1, 4, none⟩ (.int .i64 d2)).setCell ⟨w.heap.size + 1 + 1 + 1, 5, none⟩ (.int .i64 d3)).setCell ⟨w.heap.size + 1 + 1 + 1, 6, none⟩ (.int .i64 d4)).setCell ⟨w.heap.size + 1 + 1 + 1, 7, none⟩ (.int .i64 d5)).setCell ⟨w.heap.size + 1 + 1 + 1, 8, none⟩ (.int .i64 (-1))).setCell ⟨w.heap.size + 1 + 1 + 1, 9, none⟩ (.bool false)).drew = w5 at e2 e3 hb5 hr5 ⊢
  have g0 : w5.cell? ⟨w.heap.size + 1 + 1, 0, none⟩ = some (.int .i64 a) := e2.cell 0
  have g1 : w5.cell? ⟨w.heap.size + 1 + 1, 1, none⟩ = some (.int .i64 s) := e2.cell 1
  have g2 : w5.cell? ⟨w.heap.size + 1 + 1, 2, none⟩ = some (.int .i64 m) := e2.cell 2
  have g3 : w5.cell? ⟨w.heap.size + 1 + 1, 3, none⟩ = some (.slice (some ⟨bq, oq, none⟩) n cap) := e2.cell 3
  have g4 : w5.cell? ⟨w.heap.size + 1 + 1, 4, none⟩ = some (.int .i64 1) := e2.cell 4
  have g5 : w5.cell? ⟨w.heap.size + 1 + 1, 5, none⟩ = some (.int .i64 ((k : Int) + 1)) := e2.cell 5
  have g6 : w5.cell? ⟨w.heap.size + 1 + 1, 6, none⟩ = some (.int .u64 p) := e2.cell 6
  have g7 : w5.cell? ⟨w.heap.size + 1 + 1, 7, none⟩ = some (.int .u64 g) := e2.cell 7
  have g8 : w5.cell? ⟨w.heap.size + 1 + 1, 8, none⟩ = some (.int .i64 code) := e2.cell 8
  have l0 : w5.cell? ⟨w.heap.size + 1 + 1 + 1, 0, none⟩ = some (.slice (some ⟨gg, 0, none⟩) L cc) := e3.cell 0
  have l1 : w5.cell? ⟨w.heap.size + 1 + 1 + 1, 1, none⟩ = some (.slice (some ⟨gb, 0, none⟩) L L) := e3.cell 1
  have l2 : w5.cell? ⟨w.heap.size + 1 + 1 + 1, 2, none⟩ = some (.int .i64 d0) := e3.cell 2
  have l3 : w5.cell? ⟨w.heap.size + 1 + 1 + 1, 3, none⟩ = some (.int .i64 d1) := e3.cell 3
  have l4 : w5.cell? ⟨w.heap.size + 1 + 1 + 1, 4, none⟩ = some (.int .i64 d2) := e3.cell 4
  have l5 : w5.cell? ⟨w.heap.size + 1 + 1 + 1, 5, none⟩ = some (.int .i64 d3) := e3.cell 5
  have l6 : w5.cell? ⟨w.heap.size + 1 + 1 + 1, 6, none⟩ = some (.int .i64 d4) := e3.cell 6
  have l7 : w5.cell? ⟨w.heap.size + 1 + 1 + 1, 7, none⟩ = some (.int .i64 d5) := e3.cell 7
  have l8 : w5.cell? ⟨w.heap.size + 1 + 1 + 1, 8, none⟩ = some (.int .i64 (-1)) := e3.cell 8
  have l9 : w5.cell? ⟨w.heap.size + 1 + 1 + 1, 9, none⟩ = some (.bool false) := e3.cell 9
  refine bodyPost_ret (v := .tuple #[.agg #[.int .i64 a, .int .i64 s, .int .i64 m, .slice (some ⟨bq, oq, none⟩) n cap, .int .i64 1, .int .i64 ((k : Int) + 1), .int .u64 p, .int .u64 g, .int .i64 code], .agg #[.slice (some ⟨gg, 0, none⟩) L cc, .slice (some ⟨gb, 0, none⟩) L L, .int .i64 d0, .int .i64 d1, .int .i64 d2, .int .i64 d3, .int .i64 d4, .int .i64 d5, .int .i64 (-1), .bool false]]) (by simp [results, Try.results22, go_sem, g0, g1, g2, g3, g4, g5, g6, g7, g8, l0, l1, l2, l3, l4, l5, l6, l7, l8, l9]) rfl ⟨gg, cc, d0, d1, d2, d3, d4, d5, by (try rw [List.length_set]); rw [HLL.out], hr5, .inr H2.out.2.2.2.2.2.1, hb5⟩

set_option maxHeartbeats 4000000 in
set_option maxRecDepth 100000 in
theorem refop1ce (gw cw gb : Nat) (c0 c1 c2 c3 c4 c5 : Int) (ws : List Nat) (a s m k p g code : Nat) (n cap : Nat) (w : World) (hm : RefAt w gw gb ws) (wd bq oq : Nat) (hcw : w.cell? ⟨bq, oq + k, none⟩ = some (.int .i64 wd)) (hwd : wd < ws.length) (hkl : k < n) (hnl : n ≤ 64) (hs : s ≤ 1024) (hmm : m ≤ 1024) (hp : p < 18446744073709551616) (hg : g < 18446744073709551616) (hk : ¬ k = 0) (hx : ¬ ws.getD wd 0 < g) (hn : ¬ k + 1 < n) (h1 : p < (g)) :
    Calls Try.prog 22 #[.agg #[.int .i64 a, .int .i64 s, .int .i64 m, .slice (some ⟨bq, oq, none⟩) n cap, .int .i64 1, .int .i64 k, .int .u64 p, .int .u64 g, .int .i64 code], .agg #[.slice (some ⟨gw, 0, none⟩) ws.length cw, .slice (some ⟨gb, 0, none⟩) ws.length ws.length, .int .i64 c0, .int .i64 c1, .int .i64 c2, .int .i64 c3, .int .i64 c4, .int .i64 c5, .int .i64 (-1), .bool false]] w fun e w' => RefTold17 w gw gb ws [.int .i64 a, .int .i64 s, .int .i64 m, .slice (some ⟨bq, oq, none⟩) n cap, .int .i64 2, .int .i64 ((k : Int) + 1), .int .u64 p, .int .u64 g, .int .i64 code] e w' := by
  have HM := Lib.hid hm
  have HL := Lib.hid (fun W (h : RefAt W gw gb ws) => refload_same gw cw gb c0 c1 c2 c3 c4 c5 ws wd W h hwd)
  have hxl := hm.getD_lt wd
  obtain ⟨x, hxx⟩ : ∃ x, ws.getD wd 0 = x := ⟨_, rfl⟩
  rw [hxx] at HL hxl hx
  have ek := wk1 hkl hnl
  have i1 : (k : Int) < (n : Int) := Int.ofNat_lt.2 hkl
  have i0 : (0 : Int) ≤ (k : Int) := Int.natCast_nonneg k
  have tk := kz hk
  have tx := dlt hx
  have tn := dk0 hn
  have t1 := dle0 h1
  have cwk := fun o1 o2 o3 o4 o5 => kalloc o5 (kalloc o4 (kalloc o3 (kalloc o2 (kalloc o1 hcw))))
  have HBD := Lib.hid (And.intro hkl hnl)
  clear hwd hcw hxx hk hn hkl hnl hs hmm hp hg hx h1
  clear hxl
  clear hm
  go_enter Try.func22, Try.ntmps22
  go_wp2_with fail
  obtain ⟨W1, hW1⟩ : ∃ W1, W1 = ((((w.alloc (Obj.cells #[.int .i64 a, .int .i64 s, .int .i64 m, .slice (some ⟨bq, oq, none⟩) n cap, .int .i64 1, .int .i64 k, .int .u64 p, .int .u64 g, .int .i64 code] 62)).alloc (Obj.cells #[.slice (some ⟨gw, 0, none⟩) ws.length cw, .slice (some ⟨gb, 0, none⟩) ws.length ws.length, .int .i64 c0, .int .i64 c1, .int .i64 c2, .int .i64 c3, .int .i64 c4, .int .i64 c5, .int .i64 (-1), .bool false] 56)).alloc (Obj.cells #[.int .i64 0, .int .i64 0, .int .i64 0, .slice none 0 0, .int .i64 0, .int .i64 0, .int .u64 0, .int .u64 0, .int .i64 0] 62)).alloc (Obj.cells #[.slice none 0 0, .slice none 0 0, .int .i64 0, .int .i64 0, .int .i64 0, .int .i64 0, .int .i64 0, .int .i64 0, .int .i64 0, .bool false] 56)).alloc (Obj.cells #[.int .i64 0, .int .i64 wd, .int .u64 0, .int .u64 0, .int .u64 0, .int .u64 0] 80) := ⟨_, rfl⟩
  rw [← hW1]
  have b0 : Blk W1 (w.heap.size) 62 [.int .i64 a, .int .i64 s, .int .i64 m, .slice (some ⟨bq, oq, none⟩) n cap, .int .i64 1, .int .i64 k, .int .u64 p, .int .u64 g, .int .i64 code] := by rw [hW1]; exact ((((blk_new w 62 _ _ rfl).alloc _).alloc _).alloc _).alloc _
  have b2 : Blk W1 (w.heap.size + 1 + 1) 62 [.int .i64 0, .int .i64 0, .int .i64 0, .slice none 0 0, .int .i64 0, .int .i64 0, .int .u64 0, .int .u64 0, .int .i64 0] := by
    have b := blk_new ((w.alloc (Obj.cells #[.int .i64 a, .int .i64 s, .int .i64 m, .slice (some ⟨bq, oq, none⟩) n cap, .int .i64 1, .int .i64 k, .int .u64 p, .int .u64 g, .int .i64 code] 62)).alloc (Obj.cells #[.slice (some ⟨gw, 0, none⟩) ws.length cw, .slice (some ⟨gb, 0, none⟩) ws.length ws.length, .int .i64 c0, .int .i64 c1, .int .i64 c2, .int .i64 c3, .int .i64 c4, .int .i64 c5, .int .i64 (-1), .bool false] 56)) 62 #[.int .i64 0, .int .i64 0, .int .i64 0, .slice none 0 0, .int .i64 0, .int .i64 0, .int .u64 0, .int .u64 0, .int .i64 0] _ rfl
    simp only [World.size_alloc] at b
    rw [hW1]; exact (b.alloc _).alloc _
  have b3 : Blk W1 (w.heap.size + 1 + 1 + 1) 56 [.slice none 0 0, .slice none 0 0, .int .i64 0, .int .i64 0, .int .i64 0, .int .i64 0, .int .i64 0, .int .i64 0, .int .i64 0, .bool false] := by
    have b := blk_new (((w.alloc (Obj.cells #[.int .i64 a, .int .i64 s, .int .i64 m, .slice (some ⟨bq, oq, none⟩) n cap, .int .i64 1, .int .i64 k, .int .u64 p, .int .u64 g, .int .i64 code] 62)).alloc (Obj.cells #[.slice (some ⟨gw, 0, none⟩) ws.length cw, .slice (some ⟨gb, 0, none⟩) ws.length ws.length, .int .i64 c0, .int .i64 c1, .int .i64 c2, .int .i64 c3, .int .i64 c4, .int .i64 c5, .int .i64 (-1), .bool false] 56)).alloc (Obj.cells #[.int .i64 0, .int .i64 0, .int .i64 0, .slice none 0 0, .int .i64 0, .int .i64 0, .int .u64 0, .int .u64 0, .int .i64 0] 62)) 56 #[.slice none 0 0, .slice none 0 0, .int .i64 0, .int .i64 0, .int .i64 0, .int .i64 0, .int .i64 0, .int .i64 0, .int .i64 0, .bool false] _ rfl
    simp only [World.size_alloc] at b
    rw [hW1]; exact b.alloc _
  have hb1 : Below w.heap.size w W1 := by rw [hW1]; exact bnew (bnew (bnew (bnew (bnew (Below.refl _ _) _) _) _) _) _
  have H1 := Lib.hid (And.intro b0 (And.intro b2 (And.intro b3 hb1)))
  clear b0 b2 b3 hb1 hW1
  refine (HL.out W1 (HM.out.below H1.out.2.2.2)).mono ?_; rintro e w2 hto
  obtain ⟨gg, cc, d0, d1, d2, d3, d4, d5, he, hr, hgg, hb⟩ := hto
  (try simp only [List.length_set] at he hr)
  obtain ⟨L, hL⟩ : ∃ L, ws.length = L := ⟨_, rfl⟩
  rw [hL] at he
  have HLL := Lib.hid hL
  clear hL
  subst he
  have hch := chg_of_below (fun _ => False) hb
  have b0 := H1.out.1.chg hch (fun h => h)
  have b2 := H1.out.2.1.chg hch (fun h => h)
  have b3 := H1.out.2.2.1.chg hch (fun h => h)
  have hb2 := bseq H1.out.2.2.2 hb
  have hg0 : w.heap.size ≤ gg := by have := H1.out.2.2.2.size; omega
  have hg1 : gg ≠ w.heap.size ∧ gg ≠ w.heap.size + 1 + 1 ∧ gg ≠ w.heap.size + 1 + 1 + 1 := by have := H1.out.1.lt; have := H1.out.2.1.lt; have := H1.out.2.2.1.lt; omega
  have H2 := Lib.hid (And.intro b0 (And.intro b2 (And.intro b3 (And.intro hb2 (And.intro hr (And.intro hg0 hg1))))))
  clear hch b0 b2 b3 hb2 hr hgg hb hg0 hg1
  go_upto_region 10 with fail
  have b0 := H2.out.1.alloc (Obj.cells #[.slice (some ⟨gg, 0, none⟩) L cc, .slice (some ⟨gb, 0, none⟩) L L, .int .i64 d0, .int .i64 d1, .int .i64 d2, .int .i64 d3, .int .i64 d4, .int .i64 d5, .int .i64 (-1), .bool false] 56)
  have b2 := H2.out.2.1.alloc (Obj.cells #[.slice (some ⟨gg, 0, none⟩) L cc, .slice (some ⟨gb, 0, none⟩) L L, .int .i64 d0, .int .i64 d1, .int .i64 d2, .int .i64 d3, .int .i64 d4, .int .i64 d5, .int .i64 (-1), .bool false] 56)
  have b3 := H2.out.2.2.1.alloc (Obj.cells #[.slice (some ⟨gg, 0, none⟩) L cc, .slice (some ⟨gb, 0, none⟩) L L, .int .i64 d0, .int .i64 d1, .int .i64 d2, .int .i64 d3, .int .i64 d4, .int .i64 d5, .int .i64 (-1), .bool false] 56)
  have bt : Blk (w2.alloc (Obj.cells #[.slice (some ⟨gg, 0, none⟩) L cc, .slice (some ⟨gb, 0, none⟩) L L, .int .i64 d0, .int .i64 d1, .int .i64 d2, .int .i64 d3, .int .i64 d4, .int .i64 d5, .int .i64 (-1), .bool false] 56)) w2.heap.size 56 [.slice (some ⟨gg, 0, none⟩) L cc, .slice (some ⟨gb, 0, none⟩) L L, .int .i64 d0, .int .i64 d1, .int .i64 d2, .int .i64 d3, .int .i64 d4, .int .i64 d5, .int .i64 (-1), .bool false] := blk_new w2 56 _ _ rfl
  have hb3 := bnew H2.out.2.2.2.1 (Obj.cells #[.slice (some ⟨gg, 0, none⟩) L cc, .slice (some ⟨gb, 0, none⟩) L L, .int .i64 d0, .int .i64 d1, .int .i64 d2, .int .i64 d3, .int .i64 d4, .int .i64 d5, .int .i64 (-1), .bool false] 56)
  have hr3 := H2.out.2.2.2.2.1.below (bnew (Below.refl _ _) (Obj.cells #[.slice (some ⟨gg, 0, none⟩) L cc, .slice (some ⟨gb, 0, none⟩) L L, .int .i64 d0, .int .i64 d1, .int .i64 d2, .int .i64 d3, .int .i64 d4, .int .i64 d5, .int .i64 (-1), .bool false] 56))
  have hlt : w.heap.size + 1 + 1 + 1 < w2.heap.size := H2.out.2.2.1.lt
  generalize w2.alloc (Obj.cells #[.slice (some ⟨gg, 0, none⟩) L cc, .slice (some ⟨gb, 0, none⟩) L L, .int .i64 d0, .int .i64 d1, .int .i64 d2, .int .i64 d3, .int .i64 d4, .int .i64 d5, .int .i64 (-1), .bool false] 56) = w3 at b0 b2 b3 bt hb3 hr3 ⊢
  generalize w2.heap.size = tt at bt hlt ⊢
  have f0 : w3.cell? ⟨w.heap.size, 0, none⟩ = some (.int .i64 a) := b0.cell 0
  have f1 : w3.cell? ⟨w.heap.size, 1, none⟩ = some (.int .i64 s) := b0.cell 1
  have f2 : w3.cell? ⟨w.heap.size, 2, none⟩ = some (.int .i64 m) := b0.cell 2
  have f3 : w3.cell? ⟨w.heap.size, 3, none⟩ = some (.slice (some ⟨bq, oq, none⟩) n cap) := b0.cell 3
  have f4 : w3.cell? ⟨w.heap.size, 4, none⟩ = some (.int .i64 1) := b0.cell 4
  have f5 : w3.cell? ⟨w.heap.size, 5, none⟩ = some (.int .i64 k) := b0.cell 5
  have f6 : w3.cell? ⟨w.heap.size, 6, none⟩ = some (.int .u64 p) := b0.cell 6
  have f7 : w3.cell? ⟨w.heap.size, 7, none⟩ = some (.int .u64 g) := b0.cell 7
  have f8 : w3.cell? ⟨w.heap.size, 8, none⟩ = some (.int .i64 code) := b0.cell 8
  have z4 := b0.free 4
  have z5 := b0.free 5
  have H3 := Lib.hid (And.intro b0 (And.intro b2 (And.intro b3 (And.intro bt (And.intro hb3 (And.intro hr3 hlt))))))
  clear b0 b2 b3 bt hb3 hr3
  go_upto_region 34 with fail
  have b0 : Blk ((w3.setCell ⟨w.heap.size, 5, none⟩ (.int .i64 ((k : Int) + 1))).setCell ⟨w.heap.size, 4, none⟩ (.int .i64 2)) (w.heap.size) 62 [.int .i64 a, .int .i64 s, .int .i64 m, .slice (some ⟨bq, oq, none⟩) n cap, .int .i64 2, .int .i64 ((k : Int) + 1), .int .u64 p, .int .u64 g, .int .i64 code] := ((H3.out.1.set 5 (.int .i64 ((k : Int) + 1))).set 4 (.int .i64 2))
  have hch : Chg (fun j => j = w.heap.size) w3 ((w3.setCell ⟨w.heap.size, 5, none⟩ (.int .i64 ((k : Int) + 1))).setCell ⟨w.heap.size, 4, none⟩ (.int .i64 2)) := (((Chg.refl (fun j => j = w.heap.size) w3).setCell ⟨w.heap.size, 5, none⟩ (.int .i64 ((k : Int) + 1)) (fun _ => rfl)).setCell ⟨w.heap.size, 4, none⟩ (.int .i64 2) (fun _ => rfl))
  generalize ((w3.setCell ⟨w.heap.size, 5, none⟩ (.int .i64 ((k : Int) + 1))).setCell ⟨w.heap.size, 4, none⟩ (.int .i64 2)) = w4 at b0 hch ⊢
  have b2 := H3.out.2.1.chg hch (fun e => by omega)
  have b3 := H3.out.2.2.1.chg hch (fun e => by omega)
  have bt := H3.out.2.2.2.1.chg hch (fun e => by have := H3.out.2.2.2.2.2.2; omega)
  have hb4 := Chg.below H3.out.2.2.2.2.1 hch H3.out.2.2.2.2.1.size (fun k hk => by omega)
  have hr4 := H3.out.2.2.2.2.2.1.chg hch (fun e => by have := H2.out.2.2.2.2.2.2.1; omega) (fun e => by have := HM.out.marks.lt; omega)
  clear f0 f1 f2 f3 f4 f5 f6 f7 f8 z4 z5
  have f0 : w4.cell? ⟨w.heap.size, 0, none⟩ = some (.int .i64 a) := b0.cell 0
  have f1 : w4.cell? ⟨w.heap.size, 1, none⟩ = some (.int .i64 s) := b0.cell 1
  have f2 : w4.cell? ⟨w.heap.size, 2, none⟩ = some (.int .i64 m) := b0.cell 2
  have f3 : w4.cell? ⟨w.heap.size, 3, none⟩ = some (.slice (some ⟨bq, oq, none⟩) n cap) := b0.cell 3
  have f4 : w4.cell? ⟨w.heap.size, 4, none⟩ = some (.int .i64 2) := b0.cell 4
  have f5 : w4.cell? ⟨w.heap.size, 5, none⟩ = some (.int .i64 ((k : Int) + 1)) := b0.cell 5
  have f6 : w4.cell? ⟨w.heap.size, 6, none⟩ = some (.int .u64 p) := b0.cell 6
  have f7 : w4.cell? ⟨w.heap.size, 7, none⟩ = some (.int .u64 g) := b0.cell 7
  have f8 : w4.cell? ⟨w.heap.size, 8, none⟩ = some (.int .i64 code) := b0.cell 8
  have t0 : w4.cell? ⟨tt, 0, none⟩ = some (.slice (some ⟨gg, 0, none⟩) L cc) := bt.cell 0
  have t1 : w4.cell? ⟨tt, 1, none⟩ = some (.slice (some ⟨gb, 0, none⟩) L L) := bt.cell 1
  have t2 : w4.cell? ⟨tt, 2, none⟩ = some (.int .i64 d0) := bt.cell 2
  have t3 : w4.cell? ⟨tt, 3, none⟩ = some (.int .i64 d1) := bt.cell 3
  have t4 : w4.cell? ⟨tt, 4, none⟩ = some (.int .i64 d2) := bt.cell 4
  have t5 : w4.cell? ⟨tt, 5, none⟩ = some (.int .i64 d3) := bt.cell 5
  have t6 : w4.cell? ⟨tt, 6, none⟩ = some (.int .i64 d4) := bt.cell 6
  have t7 : w4.cell? ⟨tt, 7, none⟩ = some (.int .i64 d5) := bt.cell 7
  have t8 : w4.cell? ⟨tt, 8, none⟩ = some (.int .i64 (-1)) := bt.cell 8
  have t9 : w4.cell? ⟨tt, 9, none⟩ = some (.bool false) := bt.cell 9
  have g0 : w4.cell? ⟨w.heap.size + 1 + 1, 0, none⟩ = some (.int .i64 0) := b2.cell 0
  have y0 := b2.free 0
  have g1 : w4.cell? ⟨w.heap.size + 1 + 1, 1, none⟩ = some (.int .i64 0) := b2.cell 1
  have y1 := b2.free 1
  have g2 : w4.cell? ⟨w.heap.size + 1 + 1, 2, none⟩ = some (.int .i64 0) := b2.cell 2
  have y2 := b2.free 2
  have g3 : w4.cell? ⟨w.heap.size + 1 + 1, 3, none⟩ = some (.slice none 0 0) := b2.cell 3
  have y3 := b2.free 3
  have g4 : w4.cell? ⟨w.heap.size + 1 + 1, 4, none⟩ = some (.int .i64 0) := b2.cell 4
  have y4 := b2.free 4
  have g5 : w4.cell? ⟨w.heap.size + 1 + 1, 5, none⟩ = some (.int .i64 0) := b2.cell 5
  have y5 := b2.free 5
  have g6 : w4.cell? ⟨w.heap.size + 1 + 1, 6, none⟩ = some (.int .u64 0) := b2.cell 6
  have y6 := b2.free 6
  have g7 : w4.cell? ⟨w.heap.size + 1 + 1, 7, none⟩ = some (.int .u64 0) := b2.cell 7
  have y7 := b2.free 7
  have g8 : w4.cell? ⟨w.heap.size + 1 + 1, 8, none⟩ = some (.int .i64 0) := b2.cell 8
  have y8 := b2.free 8
  have l0 : w4.cell? ⟨w.heap.size + 1 + 1 + 1, 0, none⟩ = some (.slice none 0 0) := b3.cell 0
  have x0 := b3.free 0
  have l1 : w4.cell? ⟨w.heap.size + 1 + 1 + 1, 1, none⟩ = some (.slice none 0 0) := b3.cell 1
  have x1 := b3.free 1
  have l2 : w4.cell? ⟨w.heap.size + 1 + 1 + 1, 2, none⟩ = some (.int .i64 0) := b3.cell 2
  have x2 := b3.free 2
  have l3 : w4.cell? ⟨w.heap.size + 1 + 1 + 1, 3, none⟩ = some (.int .i64 0) := b3.cell 3
  have x3 := b3.free 3
  have l4 : w4.cell? ⟨w.heap.size + 1 + 1 + 1, 4, none⟩ = some (.int .i64 0) := b3.cell 4
  have x4 := b3.free 4
  have l5 : w4.cell? ⟨w.heap.size + 1 + 1 + 1, 5, none⟩ = some (.int .i64 0) := b3.cell 5
  have x5 := b3.free 5
  have l6 : w4.cell? ⟨w.heap.size + 1 + 1 + 1, 6, none⟩ = some (.int .i64 0) := b3.cell 6
  have x6 := b3.free 6
  have l7 : w4.cell? ⟨w.heap.size + 1 + 1 + 1, 7, none⟩ = some (.int .i64 0) := b3.cell 7
  have x7 := b3.free 7
  have l8 : w4.cell? ⟨w.heap.size + 1 + 1 + 1, 8, none⟩ = some (.int .i64 0) := b3.cell 8
  have x8 := b3.free 8
  have l9 : w4.cell? ⟨w.heap.size + 1 + 1 + 1, 9, none⟩ = some (.bool false) := b3.cell 9
  have x9 := b3.free 9
  have H4 := Lib.hid (And.intro b0 (And.intro b2 (And.intro b3 (And.intro bt (And.intro hb4 hr4)))))
  have hn1 : ¬ tt = w.heap.size + 1 + 1 := by omega
  have hn2 : ¬ tt = w.heap.size + 1 + 1 + 1 := by omega
  clear b0 b2 b3 bt hb4 hr4 hch
  go_region
  all_goals go_wp2
  clear f0 f1 f2 f3 f4 f5 f6 f7 f8 t0 t1 t2 t3 t4 t5 t6 t7 t8 t9 g0 y0 g1 y1 g2 y2 g3 y3 g4 y4 g5 y5 g6 y6 g7 y7 g8 y8 l0 x0 l1 x1 l2 x2 l3 x3 l4 x4 l5 x5 l6 x6 l7 x7 l8 x8 l9 x9 hn1 hn2
  obtain ⟨e2, hc2⟩ := set9 H4.out.2.1 (.int .i64 a) (.int .i64 s) (.int .i64 m) (.slice (some ⟨bq, oq, none⟩) n cap) (.int .i64 2) (.int .i64 ((k : Int) + 1)) (.int .u64 p) (.int .u64 g) (.int .i64 code)
  have e3 := H4.out.2.2.1.chg hc2 (fun e => by omega)
  obtain ⟨e3, hc3⟩ := set10 e3 (.slice (some ⟨gg, 0, none⟩) L cc) (.slice (some ⟨gb, 0, none⟩) L L) (.int .i64 d0) (.int .i64 d1) (.int .i64 d2) (.int .i64 d3) (.int .i64 d4) (.int .i64 d5) (.int .i64 (-1)) (.bool false)
  have e2 := e2.chg hc3 (fun e => by omega)
  have hb5 := Chg.below (Chg.below H4.out.2.2.2.2.1 hc2 H4.out.2.2.2.2.1.size (fun k hk => by omega)) hc3 (by have := hc2.size; have := H4.out.2.2.2.2.1.size; omega) (fun k hk => by omega)
  have hgl := HM.out.marks.lt
  have hr5 := (H4.out.2.2.2.2.2.chg hc2 (fun e => by have := H2.out.2.2.2.2.2.2.2.1; omega) (fun e => by omega)).chg hc3 (fun e => by have := H2.out.2.2.2.2.2.2.2.2; omega) (fun e => by omega)
  have e2 := e2.drew
  have e3 := e3.drew
  have hb5 := hb5.drew
  have hr5 := hr5.drew
  generalize (((((((((((((((((((w4.setCell ⟨w.heap.size + 1 + 1, 0, none⟩ (.int .i64 a)).setCell ⟨w.heap.size + 1 + 1, 1, none⟩ (.int .i64 s)).setCell ⟨w.heap.size + 1 + 1, 2, none⟩ (.int .i64 m)).setCell ⟨w.heap.size + 1 + 1, 3, none⟩ (.slice (some ⟨bq, oq, none⟩) n cap)).setCell ⟨w.heap.size + 1 + 1, 4, none⟩ (.int .i64 2)).setCell ⟨w.heap.size + 1 + 1, 5, none⟩ (.int .i64 ((k : Int) + 1))).setCell ⟨w.heap.size + 1 + 1, 6, none⟩ (.int .u64 p)).setCell ⟨w.heap.size + 1 + 1, 7, none⟩ (.int .u64 g)).setCell ⟨w.heap.size + 1 + 1, 8, none⟩ (.int .i64 code)).setCell ⟨w.heap.size + 1 + 1 + 1, 0, none⟩ (.slice (some ⟨gg, 0, none⟩) L cc)).setCell ⟨w.heap.size + 1 + 1 + 1, 1, none⟩ (.slice (some ⟨gb, 0, none⟩) L L)).setCell ⟨w.heap.size + 1 + 1 + 1, 2, none⟩ (.int .i64 d0)).setCell ⟨w.heap.size + 1 + 1 + 1, 3, none⟩ (.int .i64 d1)).setCell ⟨w.heap.size + 1 + 1 + 1, 4, none⟩ (.int .i64 d2)).setCell ⟨w.heap.size + 1 + 1 + 1, 5, none⟩ (.int .i64 d3)).setCell ⟨w.heap.size + 1 + 1 + 1, 6, none⟩ (.int .i64 d4)).setCell ⟨w.heap.size + 1 + 1 + 1, 7, none⟩ (.int .i64 d5)).setCell ⟨w.heap.size + 1 + 1 + 1, 8, none⟩ (.int .i64 (-1))).setCell ⟨w.heap.size + 1 + 1 + 1, 9, none⟩ (.bool false)).drew = w5 at e2 e3 hb5 hr5 ⊢
  have g0 : w5.cell? ⟨w.heap.size + 1 + 1, 0, none⟩ = some (.int .i64 a) := e2.cell 0
  have g1 : w5.cell? ⟨w.heap.size + 1 + 1, 1, none⟩ = some (.int .i64 s) := e2.cell 1
  have g2 : w5.cell? ⟨w.heap.size + 1 + 1, 2, none⟩ = some (.int .i64 m) := e2.cell 2
  have g3 : w5.cell? ⟨w.heap.size + 1 + 1, 3, none⟩ = some (.slice (some ⟨bq, oq, none⟩) n cap) := e2.cell 3
  have g4 : w5.cell? ⟨w.heap.size + 1 + 1, 4, none⟩ = some (.int .i64 2) := e2.cell 4
  have g5 : w5.cell? ⟨w.heap.size + 1 + 1, 5, none⟩ = some (.int .i64 ((k : Int) + 1)) := e2.cell 5
  have g6 : w5.cell? ⟨w.heap.size + 1 + 1, 6, none⟩ = some (.int .u64 p) := e2.cell 6
  have g7 : w5.cell? ⟨w.heap.size + 1 + 1, 7, none⟩ = some (.int .u64 g) := e2.cell 7
  have g8 : w5.cell? ⟨w.heap.size + 1 + 1, 8, none⟩ = some (.int .i64 code) := e2.cell 8
  have l0 : w5.cell? ⟨w.heap.size + 1 + 1 + 1, 0, none⟩ = some (.slice (some ⟨gg, 0, none⟩) L cc) := e3.cell 0
  have l1 : w5.cell? ⟨w.heap.size + 1 + 1 + 1, 1, none⟩ = some (.slice (some ⟨gb, 0, none⟩) L L) := e3.cell 1
  have l2 : w5.cell? ⟨w.heap.size + 1 + 1 + 1, 2, none⟩ = some (.int .i64 d0) := e3.cell 2
  have l3 : w5.cell? ⟨w.heap.size + 1 + 1 + 1, 3, none⟩ = some (.int .i64 d1) := e3.cell 3
  have l4 : w5.cell? ⟨w.heap.size + 1 + 1 + 1, 4, none⟩ = some (.int .i64 d2) := e3.cell 4
  have l5 : w5.cell? ⟨w.heap.size + 1 + 1 + 1, 5, none⟩ = some (.int .i64 d3) := e3.cell 5
  have l6 : w5.cell? ⟨w.heap.size + 1 + 1 + 1, 6, none⟩ = some (.int .i64 d4) := e3.cell 6
  have l7 : w5.cell? ⟨w.heap.size + 1 + 1 + 1, 7, none⟩ = some (.int .i64 d5) := e3.cell 7
  have l8 : w5.cell? ⟨w.heap.size + 1 + 1 + 1, 8, none⟩ = some (.int .i64 (-1)) := e3.cell 8
  have l9 : w5.cell? ⟨w.heap.size + 1 + 1 + 1, 9, none⟩ = some (.bool false) := e3.cell 9
  refine bodyPost_ret (v := .tuple #[.agg #[.int .i64 a, .int .i64 s, .int .i64 m, .slice (some ⟨bq, oq, none⟩) n cap, .int .i64 2, .int .i64 ((k : Int) + 1), .int .u64 p, .int .u64 g, .int .i64 code], .agg #[.slice (some ⟨gg, 0, none⟩) L cc, .slice (some ⟨gb, 0, none⟩) L L, .int .i64 d0, .int .i64 d1, .int .i64 d2, .int .i64 d3, .int .i64 d4, .int .i64 d5, .int .i64 (-1), .bool false]]) (by simp [results, Try.results22, go_sem, g0, g1, g2, g3, g4, g5, g6, g7, g8, l0, l1, l2, l3, l4, l5, l6, l7, l8, l9]) rfl ⟨gg, cc, d0, d1, d2, d3, d4, d5, by (try rw [List.length_set]); rw [HLL.out], hr5, .inr H2.out.2.2.2.2.2.1, hb5⟩

set_option maxHeartbeats 4000000 in
set_option maxRecDepth 100000 in
theorem refop1cf (gw cw gb : Nat) (c0 c1 c2 c3 c4 c5 : Int) (ws : List Nat) (a s m k p g code : Nat) (n cap : Nat) (w : World) (hm : RefAt w gw gb ws) (wd bq oq : Nat) (hcw : w.cell? ⟨bq, oq + k, none⟩ = some (.int .i64 wd)) (hwd : wd < ws.length) (hkl : k < n) (hnl : n ≤ 64) (hs : s ≤ 1024) (hmm : m ≤ 1024) (hp : p < 18446744073709551616) (hg : g < 18446744073709551616) (hk : ¬ k = 0) (hx : ¬ ws.getD wd 0 < g) (hn : ¬ k + 1 < n) (h1 : ¬ p < (g)) (h2 : s < p - (g)) :
    Calls Try.prog 22 #[.agg #[.int .i64 a, .int .i64 s, .int .i64 m, .slice (some ⟨bq, oq, none⟩) n cap, .int .i64 1, .int .i64 k, .int .u64 p, .int .u64 g, .int .i64 code], .agg #[.slice (some ⟨gw, 0, none⟩) ws.length cw, .slice (some ⟨gb, 0, none⟩) ws.length ws.length, .int .i64 c0, .int .i64 c1, .int .i64 c2, .int .i64 c3, .int .i64 c4, .int .i64 c5, .int .i64 (-1), .bool false]] w fun e w' => RefTold17 w gw gb ws [.int .i64 a, .int .i64 s, .int .i64 m, .slice (some ⟨bq, oq, none⟩) n cap, .int .i64 3, .int .i64 ((k : Int) + 1), .int .u64 0, .int .u64 g, .int .i64 15] e w' := by
  have HM := Lib.hid hm
  have HL := Lib.hid (fun W (h : RefAt W gw gb ws) => refload_same gw cw gb c0 c1 c2 c3 c4 c5 ws wd W h hwd)
  have hxl := hm.getD_lt wd
  obtain ⟨x, hxx⟩ : ∃ x, ws.getD wd 0 = x := ⟨_, rfl⟩
  rw [hxx] at HL hxl hx
  have ek := wk1 hkl hnl
  have i1 : (k : Int) < (n : Int) := Int.ofNat_lt.2 hkl
  have i0 : (0 : Int) ≤ (k : Int) := Int.natCast_nonneg k
  have tk := kz hk
  have tx := dlt hx
  have tn := dk0 hn
  have t1 := dle h1
  obtain ⟨d, hd⟩ : ∃ d, p - g = d := ⟨_, rfl⟩
  have wd0 := wsub hp h1 hd
  have es := wsm hs
  have em := wsm hmm
  rw [hd] at h2
  have t2 : decide (s < d) = true := decide_eq_true h2
  have cwk := fun o1 o2 o3 o4 o5 => kalloc o5 (kalloc o4 (kalloc o3 (kalloc o2 (kalloc o1 hcw))))
  have HBD := Lib.hid (And.intro hkl hnl)
  clear hwd hcw hxx hk hn hkl hnl hs hmm hp hg hx h1 h2 hd
  clear hxl
  clear hm
  go_enter Try.func22, Try.ntmps22
  go_wp2_with fail
  obtain ⟨W1, hW1⟩ : ∃ W1, W1 = ((((w.alloc (Obj.cells #[.int .i64 a, .int .i64 s, .int .i64 m, .slice (some ⟨bq, oq, none⟩) n cap, .int .i64 1, .int .i64 k, .int .u64 p, .int .u64 g, .int .i64 code] 62)).alloc (Obj.cells #[.slice (some ⟨gw, 0, none⟩) ws.length cw, .slice (some ⟨gb, 0, none⟩) ws.length ws.length, .int .i64 c0, .int .i64 c1, .int .i64 c2, .int .i64 c3, .int .i64 c4, .int .i64 c5, .int .i64 (-1), .bool false] 56)).alloc (Obj.cells #[.int .i64 0, .int .i64 0, .int .i64 0, .slice none 0 0, .int .i64 0, .int .i64 0, .int .u64 0, .int .u64 0, .int .i64 0] 62)).alloc (Obj.cells #[.slice none 0 0, .slice none 0 0, .int .i64 0, .int .i64 0, .int .i64 0, .int .i64 0, .int .i64 0, .int .i64 0, .int .i64 0, .bool false] 56)).alloc (Obj.cells #[.int .i64 0, .int .i64 wd, .int .u64 0, .int .u64 0, .int .u64 0, .int .u64 0] 80) := ⟨_, rfl⟩
  rw [← hW1]
  have b0 : Blk W1 (w.heap.size) 62 [.int .i64 a, .int .i64 s, .int .i64 m, .slice (some ⟨bq, oq, none⟩) n cap, .int .i64 1, .int .i64 k, .int .u64 p, .int .u64 g, .int .i64 code] := by rw [hW1]; exact ((((blk_new w 62 _ _ rfl).alloc _).alloc _).alloc _).alloc _
  have b2 : Blk W1 (w.heap.size + 1 + 1) 62 [.int .i64 0, .int .i64 0, .int .i64 0, .slice none 0 0, .int .i64 0, .int .i64 0, .int .u64 0, .int .u64 0, .int .i64 0] := by
    have b := blk_new ((w.alloc (Obj.cells #[.int .i64 a, .int .i64 s, .int .i64 m, .slice (some ⟨bq, oq, none⟩) n cap, .int .i64 1, .int .i64 k, .int .u64 p, .int .u64 g, .int .i64 code] 62)).alloc (Obj.cells #[.slice (some ⟨gw, 0, none⟩) ws.length cw, .slice (some ⟨gb, 0, none⟩) ws.length ws.length, .int .i64 c0, .int .i64 c1, .int .i64 c2, .int .i64 c3, .int .i64 c4, .int .i64 c5, .int .i64 (-1), .bool false] 56)) 62 #[.int .i64 0, .int .i64 0, .int .i64 0, .slice none 0 0, .int .i64 0, .int .i64 0, .int .u64 0, .int .u64 0, .int .i64 0] _ rfl
    simp only [World.size_alloc] at b
    rw [hW1]; exact (b.alloc _).alloc _
  have b3 : Blk W1 (w.heap.size + 1 + 1 + 1) 56 [.slice none 0 0, .slice none 0 0, .int .i64 0, .int .i64 0, .int .i64 0, .int .i64 0, .int .i64 0, .int .i64 0, .int .i64 0, .bool false] := by
    have b := blk_new (((w.alloc (Obj.cells #[.int .i64 a, .int .i64 s, .int .i64 m, .slice (some ⟨bq, oq, none⟩) n cap, .int .i64 1, .int .i64 k, .int .u64 p, .int .u64 g, .int .i64 code] 62)).alloc (Obj.cells #[.slice (some ⟨gw, 0, none⟩) ws.length cw, .slice (some ⟨gb, 0, none⟩) ws.length ws.length, .int .i64 c0, .int .i64 c1, .int .i64 c2, .int .i64 c3, .int .i64 c4, .int .i64 c5, .int .i64 (-1), .bool false] 56)).alloc (Obj.cells #[.int .i64 0, .int .i64 0, .int .i64 0, .slice none 0 0, .int .i64 0, .int .i64 0, .int .u64 0, .int .u64 0, .int .i64 0] 62)) 56 #[.slice none 0 0, .slice none 0 0, .int .i64 0, .int .i64 0, .int .i64 0, .int .i64 0, .int .i64 0, .int .i64 0, .int .i64 0, .bool false] _ rfl
    simp only [World.size_alloc] at b
    rw [hW1]; exact b.alloc _
  have hb1 : Below w.heap.size w W1 := by rw [hW1]; exact bnew (bnew (bnew (bnew (bnew (Below.refl _ _) _) _) _) _) _
  have H1 := Lib.hid (And.intro b0 (And.intro b2 (And.intro b3 hb1)))
  clear b0 b2 b3 hb1 hW1
  refine (HL.out W1 (HM.out.below H1.out.2.2.2)).mono ?_; rintro e w2 hto
  obtain ⟨gg, cc, d0, d1, d2, d3, d4, d5, he, hr, hgg, hb⟩ := hto
  (try simp only [List.length_set] at he hr)
  obtain ⟨L, hL⟩ : ∃ L, ws.length = L := ⟨_, rfl⟩
  rw [hL] at he
  have HLL := Lib.hid hL
  clear hL
  subst he
  have hch := chg_of_below (fun _ => False) hb
  have b0 := H1.out.1.chg hch (fun h => h)
  have b2 := H1.out.2.1.chg hch (fun h => h)
  have b3 := H1.out.2.2.1.chg hch (fun h => h)
  have hb2 := bseq H1.out.2.2.2 hb
  have hg0 : w.heap.size ≤ gg := by have := H1.out.2.2.2.size; omega
  have hg1 : gg ≠ w.heap.size ∧ gg ≠ w.heap.size + 1 + 1 ∧ gg ≠ w.heap.size + 1 + 1 + 1 := by have := H1.out.1.lt; have := H1.out.2.1.lt; have := H1.out.2.2.1.lt; omega
  have H2 := Lib.hid (And.intro b0 (And.intro b2 (And.intro b3 (And.intro hb2 (And.intro hr (And.intro hg0 hg1))))))
  clear hch b0 b2 b3 hb2 hr hgg hb hg0 hg1
  go_upto_region 10 with fail
  have b0 := H2.out.1.alloc (Obj.cells #[.slice (some ⟨gg, 0, none⟩) L cc, .slice (some ⟨gb, 0, none⟩) L L, .int .i64 d0, .int .i64 d1, .int .i64 d2, .int .i64 d3, .int .i64 d4, .int .i64 d5, .int .i64 (-1), .bool false] 56)
  have b2 := H2.out.2.1.alloc (Obj.cells #[.slice (some ⟨gg, 0, none⟩) L cc, .slice (some ⟨gb, 0, none⟩) L L, .int .i64 d0, .int .i64 d1, .int .i64 d2, .int .i64 d3, .int .i64 d4, .int .i64 d5, .int .i64 (-1), .bool false] 56)
  have b3 := H2.out.2.2.1.alloc (Obj.cells #[.slice (some ⟨gg, 0, none⟩) L cc, .slice (some ⟨gb, 0, none⟩) L L, .int .i64 d0, .int .i64 d1, .int .i64 d2, .int .i64 d3, .int .i64 d4, .int .i64 d5, .int .i64 (-1), .bool false] 56)
  have bt : Blk (w2.alloc (Obj.cells #[.slice (some ⟨gg, 0, none⟩) L cc, .slice (some ⟨gb, 0, none⟩) L L, .int .i64 d0, .int .i64 d1, .int .i64 d2, .int .i64 d3, .int .i64 d4, .int .i64 d5, .int .i64 (-1), .bool false] 56)) w2.heap.size 56 [.slice (some ⟨gg, 0, none⟩) L cc, .slice (some ⟨gb, 0, none⟩) L L, .int .i64 d0, .int .i64 d1, .int .i64 d2, .int .i64 d3, .int .i64 d4, .int .i64 d5, .int .i64 (-1), .bool false] := blk_new w2 56 _ _ rfl
  have hb3 := bnew H2.out.2.2.2.1 (Obj.cells #[.slice (some ⟨gg, 0, none⟩) L cc, .slice (some ⟨gb, 0, none⟩) L L, .int .i64 d0, .int .i64 d1, .int .i64 d2, .int .i64 d3, .int .i64 d4, .int .i64 d5, .int .i64 (-1), .bool false] 56)
  have hr3 := H2.out.2.2.2.2.1.below (bnew (Below.refl _ _) (Obj.cells #[.slice (some ⟨gg, 0, none⟩) L cc, .slice (some ⟨gb, 0, none⟩) L L, .int .i64 d0, .int .i64 d1, .int .i64 d2, .int .i64 d3, .int .i64 d4, .int .i64 d5, .int .i64 (-1), .bool false] 56))
  have hlt : w.heap.size + 1 + 1 + 1 < w2.heap.size := H2.out.2.2.1.lt
  generalize w2.alloc (Obj.cells #[.slice (some ⟨gg, 0, none⟩) L cc, .slice (some ⟨gb, 0, none⟩) L L, .int .i64 d0, .int .i64 d1, .int .i64 d2, .int .i64 d3, .int .i64 d4, .int .i64 d5, .int .i64 (-1), .bool false] 56) = w3 at b0 b2 b3 bt hb3 hr3 ⊢
  generalize w2.heap.size = tt at bt hlt ⊢
  have f0 : w3.cell? ⟨w.heap.size, 0, none⟩ = some (.int .i64 a) := b0.cell 0
  have f1 : w3.cell? ⟨w.heap.size, 1, none⟩ = some (.int .i64 s) := b0.cell 1
  have f2 : w3.cell? ⟨w.heap.size, 2, none⟩ = some (.int .i64 m) := b0.cell 2
  have f3 : w3.cell? ⟨w.heap.size, 3, none⟩ = some (.slice (some ⟨bq, oq, none⟩) n cap) := b0.cell 3
  have f4 : w3.cell? ⟨w.heap.size, 4, none⟩ = some (.int .i64 1) := b0.cell 4
  have f5 : w3.cell? ⟨w.heap.size, 5, none⟩ = some (.int .i64 k) := b0.cell 5
  have f6 : w3.cell? ⟨w.heap.size, 6, none⟩ = some (.int .u64 p) := b0.cell 6
  have f7 : w3.cell? ⟨w.heap.size, 7, none⟩ = some (.int .u64 g) := b0.cell 7
  have f8 : w3.cell? ⟨w.heap.size, 8, none⟩ = some (.int .i64 code) := b0.cell 8
  have z4 := b0.free 4
  have z5 := b0.free 5
  have z6 := b0.free 6
  have z8 := b0.free 8
  have H3 := Lib.hid (And.intro b0 (And.intro b2 (And.intro b3 (And.intro bt (And.intro hb3 (And.intro hr3 hlt))))))
  clear b0 b2 b3 bt hb3 hr3
  go_upto_region 34 with fail
  have b0 : Blk (((((w3.setCell ⟨w.heap.size, 5, none⟩ (.int .i64 ((k : Int) + 1))).setCell ⟨w.heap.size, 4, none⟩ (.int .i64 2)).setCell ⟨w.heap.size, 4, none⟩ (.int .i64 3)).setCell ⟨w.heap.size, 8, none⟩ (.int .i64 15)).setCell ⟨w.heap.size, 6, none⟩ (.int .u64 0)) (w.heap.size) 62 [.int .i64 a, .int .i64 s, .int .i64 m, .slice (some ⟨bq, oq, none⟩) n cap, .int .i64 3, .int .i64 ((k : Int) + 1), .int .u64 0, .int .u64 g, .int .i64 15] := (((((H3.out.1.set 5 (.int .i64 ((k : Int) + 1))).set 4 (.int .i64 2)).set 4 (.int .i64 3)).set 8 (.int .i64 15)).set 6 (.int .u64 0))
  have hch : Chg (fun j => j = w.heap.size) w3 (((((w3.setCell ⟨w.heap.size, 5, none⟩ (.int .i64 ((k : Int) + 1))).setCell ⟨w.heap.size, 4, none⟩ (.int .i64 2)).setCell ⟨w.heap.size, 4, none⟩ (.int .i64 3)).setCell ⟨w.heap.size, 8, none⟩ (.int .i64 15)).setCell ⟨w.heap.size, 6, none⟩ (.int .u64 0)) := ((((((Chg.refl (fun j => j = w.heap.size) w3).setCell ⟨w.heap.size, 5, none⟩ (.int .i64 ((k : Int) + 1)) (fun _ => rfl)).setCell ⟨w.heap.size, 4, none⟩ (.int .i64 2) (fun _ => rfl)).setCell ⟨w.heap.size, 4, none⟩ (.int .i64 3) (fun _ => rfl)).setCell ⟨w.heap.size, 8, none⟩ (.int .i64 15) (fun _ => rfl)).setCell ⟨w.heap.size, 6, none⟩ (.int .u64 0) (fun _ => rfl))
  generalize (((((w3.setCell ⟨w.heap.size, 5, none⟩ (.int .i64 ((k : Int) + 1))).setCell ⟨w.heap.size, 4, none⟩ (.int .i64 2)).setCell ⟨w.heap.size, 4, none⟩ (.int .i64 3)).setCell ⟨w.heap.size, 8, none⟩ (.int .i64 15)).setCell ⟨w.heap.size, 6, none⟩ (.int .u64 0)) = w4 at b0 hch ⊢
  have b2 := H3.out.2.1.chg hch (fun e => by omega)
  have b3 := H3.out.2.2.1.chg hch (fun e => by omega)
  have bt := H3.out.2.2.2.1.chg hch (fun e => by have := H3.out.2.2.2.2.2.2; omega)
  have hb4 := Chg.below H3.out.2.2.2.2.1 hch H3.out.2.2.2.2.1.size (fun k hk => by omega)
  have hr4 := H3.out.2.2.2.2.2.1.chg hch (fun e => by have := H2.out.2.2.2.2.2.2.1; omega) (fun e => by have := HM.out.marks.lt; omega)
  clear f0 f1 f2 f3 f4 f5 f6 f7 f8 z4 z5 z6 z8
  have f0 : w4.cell? ⟨w.heap.size, 0, none⟩ = some (.int .i64 a) := b0.cell 0
  have f1 : w4.cell? ⟨w.heap.size, 1, none⟩ = some (.int .i64 s) := b0.cell 1
  have f2 : w4.cell? ⟨w.heap.size, 2, none⟩ = some (.int .i64 m) := b0.cell 2
  have f3 : w4.cell? ⟨w.heap.size, 3, none⟩ = some (.slice (some ⟨bq, oq, none⟩) n cap) := b0.cell 3
  have f4 : w4.cell? ⟨w.heap.size, 4, none⟩ = some (.int .i64 3) := b0.cell 4
  have f5 : w4.cell? ⟨w.heap.size, 5, none⟩ = some (.int .i64 ((k : Int) + 1)) := b0.cell 5
  have f6 : w4.cell? ⟨w.heap.size, 6, none⟩ = some (.int .u64 0) := b0.cell 6
  have f7 : w4.cell? ⟨w.heap.size, 7, none⟩ = some (.int .u64 g) := b0.cell 7
  have f8 : w4.cell? ⟨w.heap.size, 8, none⟩ = some (.int .i64 15) := b0.cell 8
  have t0 : w4.cell? ⟨tt, 0, none⟩ = some (.slice (some ⟨gg, 0, none⟩) L cc) := bt.cell 0
  have t1 : w4.cell? ⟨tt, 1, none⟩ = some (.slice (some ⟨gb, 0, none⟩) L L) := bt.cell 1
  have t2 : w4.cell? ⟨tt, 2, none⟩ = some (.int .i64 d0) := bt.cell 2
  have t3 : w4.cell? ⟨tt, 3, none⟩ = some (.int .i64 d1) := bt.cell 3
  have t4 : w4.cell? ⟨tt, 4, none⟩ = some (.int .i64 d2) := bt.cell 4
  have t5 : w4.cell? ⟨tt, 5, none⟩ = some (.int .i64 d3) := bt.cell 5
  have t6 : w4.cell? ⟨tt, 6, none⟩ = some (.int .i64 d4) := bt.cell 6
  have t7 : w4.cell? ⟨tt, 7, none⟩ = some (.int .i64 d5) := bt.cell 7
  have t8 : w4.cell? ⟨tt, 8, none⟩ = some (.int .i64 (-1)) := bt.cell 8
  have t9 : w4.cell? ⟨tt, 9, none⟩ = some (.bool false) := bt.cell 9
  have g0 : w4.cell? ⟨w.heap.size + 1 + 1, 0, none⟩ = some (.int .i64 0) := b2.cell 0
  have y0 := b2.free 0
  have g1 : w4.cell? ⟨w.heap.size + 1 + 1, 1, none⟩ = some (.int .i64 0) := b2.cell 1
  have y1 := b2.free 1
  have g2 : w4.cell? ⟨w.heap.size + 1 + 1, 2, none⟩ = some (.int .i64 0) := b2.cell 2
  have y2 := b2.free 2
  have g3 : w4.cell? ⟨w.heap.size + 1 + 1, 3, none⟩ = some (.slice none 0 0) := b2.cell 3
  have y3 := b2.free 3
  have g4 : w4.cell? ⟨w.heap.size + 1 + 1, 4, none⟩ = some (.int .i64 0) := b2.cell 4
  have y4 := b2.free 4
  have g5 : w4.cell? ⟨w.heap.size + 1 + 1, 5, none⟩ = some (.int .i64 0) := b2.cell 5
  have y5 := b2.free 5
  have g6 : w4.cell? ⟨w.heap.size + 1 + 1, 6, none⟩ = some (.int .u64 0) := b2.cell 6
  have y6 := b2.free 6
  have g7 : w4.cell? ⟨w.heap.size + 1 + 1, 7, none⟩ = some (.int .u64 0) := b2.cell 7
  have y7 := b2.free 7
  have g8 : w4.cell? ⟨w.heap.size + 1 + 1, 8, none⟩ = some (.int .i64 0) := b2.cell 8
  have y8 := b2.free 8
  have l0 : w4.cell? ⟨w.heap.size + 1 + 1 + 1, 0, none⟩ = some (.slice none 0 0) := b3.cell 0
  have x0 := b3.free 0
  have l1 : w4.cell? ⟨w.heap.size + 1 + 1 + 1, 1, none⟩ = some (.slice none 0 0) := b3.cell 1
  have x1 := b3.free 1
  have l2 : w4.cell? ⟨w.heap.size + 1 + 1 + 1, 2, none⟩ = some (.int .i64 0) := b3.cell 2
  have x2 := b3.free 2
  have l3 : w4.cell? ⟨w.heap.size + 1 + 1 + 1, 3, none⟩ = some (.int .i64 0) := b3.cell 3
  have x3 := b3.free 3
  have l4 : w4.cell? ⟨w.heap.size + 1 + 1 + 1, 4, none⟩ = some (.int .i64 0) := b3.cell 4
  have x4 := b3.free 4
  have l5 : w4.cell? ⟨w.heap.size + 1 + 1 + 1, 5, none⟩ = some (.int .i64 0) := b3.cell 5
  have x5 := b3.free 5
  have l6 : w4.cell? ⟨w.heap.size + 1 + 1 + 1, 6, none⟩ = some (.int .i64 0) := b3.cell 6
  have x6 := b3.free 6
  have l7 : w4.cell? ⟨w.heap.size + 1 + 1 + 1, 7, none⟩ = some (.int .i64 0) := b3.cell 7
  have x7 := b3.free 7
  have l8 : w4.cell? ⟨w.heap.size + 1 + 1 + 1, 8, none⟩ = some (.int .i64 0) := b3.cell 8
  have x8 := b3.free 8
  have l9 : w4.cell? ⟨w.heap.size + 1 + 1 + 1, 9, none⟩ = some (.bool false) := b3.cell 9
  have x9 := b3.free 9
  have H4 := Lib.hid (And.intro b0 (And.intro b2 (And.intro b3 (And.intro bt (And.intro hb4 hr4)))))
  have hn1 : ¬ tt = w.heap.size + 1 + 1 := by omega
  have hn2 : ¬ tt = w.heap.size + 1 + 1 + 1 := by omega
  clear b0 b2 b3 bt hb4 hr4 hch
  go_region
  all_goals go_wp2
  clear f0 f1 f2 f3 f4 f5 f6 f7 f8 t0 t1 t2 t3 t4 t5 t6 t7 t8 t9 g0 y0 g1 y1 g2 y2 g3 y3 g4 y4 g5 y5 g6 y6 g7 y7 g8 y8 l0 x0 l1 x1 l2 x2 l3 x3 l4 x4 l5 x5 l6 x6 l7 x7 l8 x8 l9 x9 hn1 hn2
  obtain ⟨e2, hc2⟩ := set9 H4.out.2.1 (.int .i64 a) (.int .i64 s) (.int .i64 m) (.slice (some ⟨bq, oq, none⟩) n cap) (.int .i64 3) (.int .i64 ((k : Int) + 1)) (.int .u64 0) (.int .u64 g) (.int .i64 15)
  have e3 := H4.out.2.2.1.chg hc2 (fun e => by omega)
  obtain ⟨e3, hc3⟩ := set10 e3 (.slice (some ⟨gg, 0, none⟩) L cc) (.slice (some ⟨gb, 0, none⟩) L L) (.int .i64 d0) (.int .i64 d1) (.int .i64 d2) (.int .i64 d3) (.int .i64 d4) (.int .i64 d5) (.int .i64 (-1)) (.bool false)
  have e2 := e2.chg hc3 (fun e => by omega)
  have hb5 := Chg.below (Chg.below H4.out.2.2.2.2.1 hc2 H4.out.2.2.2.2.1.size (fun k hk => by omega)) hc3 (by have := hc2.size; have := H4.out.2.2.2.2.1.size; omega) (fun k hk => by omega)
  have hgl := HM.out.marks.lt
  have hr5 := (H4.out.2.2.2.2.2.chg hc2 (fun e => by have := H2.out.2.2.2.2.2.2.2.1; omega) (fun e => by omega)).chg hc3 (fun e => by have := H2.out.2.2.2.2.2.2.2.2; omega) (fun e => by omega)
  have e2 := e2.drew
  have e3 := e3.drew
  have hb5 := hb5.drew
  have hr5 := hr5.drew
  generalize (((((((((((((((((((w4.setCell ⟨w.heap.size + 1 + 1, 0, none⟩ (.int .i64 a)).setCell ⟨w.heap.size + 1 + 1, 1, none⟩ (.int .i64 s)).setCell ⟨w.heap.size + 1 + 1, 2, none⟩ (.int .i64 m)).setCell ⟨w.heap.size + 1 + 1, 3, none⟩ (.slice (some ⟨bq, oq, none⟩) n cap)).setCell ⟨w.heap.size + 1 + 1, 4, none⟩ (.int .i64 3)).setCell ⟨w.heap.size + 1 + 1, 5, none⟩ (.int .i64 ((k : Int) + 1))).setCell ⟨w.heap.size + 1 + 1, 6, none⟩ (.int .u64 0)).setCell ⟨w.heap.size + 1 + 1, 7, none⟩ (.int .u64 g)).setCell ⟨w.heap.size + 1 + 1, 8, none⟩ (.int .i64 15)).setCell ⟨w.heap.size + 1 + 1 + 1, 0, none⟩ (.slice (some ⟨gg, 0, none⟩) L cc)).setCell ⟨w.heap.size + 1 + 1 + 1, 1, none⟩ (.slice (some ⟨gb, 0, none⟩) L L)).setCell ⟨w.heap.size + 1 + 1 + 1, 2, none⟩ (.int .i64 d0)).setCell ⟨w.heap.size + 1 + 1 + 1, 3, none⟩ (.int .i64 d1)).setCell ⟨w.heap.size + 1 + 1 + 1, 4, none⟩ (.int .i64 d2)).setCell ⟨w.heap.size + 1 + 1 + 1, 5, none⟩ (.int .i64 d3)).setCell ⟨w.heap.size + 1 + 1 + 1, 6, none⟩ (.int .i64 d4)).setCell ⟨w.heap.size + 1 + 1 + 1, 7, none⟩ (.int .i64 d5)).setCell ⟨w.heap.size + 1 + 1 + 1, 8, none⟩ (.int .i64 (-1))).setCell ⟨w.heap.size + 1 + 1 + 1, 9, none⟩ (.bool false)).drew = w5 at e2 e3 hb5 hr5 ⊢
  have g0 : w5.cell? ⟨w.heap.size + 1 + 1, 0, none⟩ = some (.int .i64 a) := e2.cell 0
  have g1 : w5.cell? ⟨w.heap.size + 1 + 1, 1, none⟩ = some (.int .i64 s) := e2.cell 1
  have g2 : w5.cell? ⟨w.heap.size + 1 + 1, 2, none⟩ = some (.int .i64 m) := e2.cell 2
  have g3 : w5.cell? ⟨w.heap.size + 1 + 1, 3, none⟩ = some (.slice (some ⟨bq, oq, none⟩) n cap) := e2.cell 3
  have g4 : w5.cell? ⟨w.heap.size + 1 + 1, 4, none⟩ = some (.int .i64 3) := e2.cell 4
  have g5 : w5.cell? ⟨w.heap.size + 1 + 1, 5, none⟩ = some (.int .i64 ((k : Int) + 1)) := e2.cell 5
  have g6 : w5.cell? ⟨w.heap.size + 1 + 1, 6, none⟩ = some (.int .u64 0) := e2.cell 6
  have g7 : w5.cell? ⟨w.heap.size + 1 + 1, 7, none⟩ = some (.int .u64 g) := e2.cell 7
  have g8 : w5.cell? ⟨w.heap.size + 1 + 1, 8, none⟩ = some (.int .i64 15) := e2.cell 8
  have l0 : w5.cell? ⟨w.heap.size + 1 + 1 + 1, 0, none⟩ = some (.slice (some ⟨gg, 0, none⟩) L cc) := e3.cell 0
  have l1 : w5.cell? ⟨w.heap.size + 1 + 1 + 1, 1, none⟩ = some (.slice (some ⟨gb, 0, none⟩) L L) := e3.cell 1
  have l2 : w5.cell? ⟨w.heap.size + 1 + 1 + 1, 2, none⟩ = some (.int .i64 d0) := e3.cell 2
  have l3 : w5.cell? ⟨w.heap.size + 1 + 1 + 1, 3, none⟩ = some (.int .i64 d1) := e3.cell 3
  have l4 : w5.cell? ⟨w.heap.size + 1 + 1 + 1, 4, none⟩ = some (.int .i64 d2) := e3.cell 4
  have l5 : w5.cell? ⟨w.heap.size + 1 + 1 + 1, 5, none⟩ = some (.int .i64 d3) := e3.cell 5
  have l6 : w5.cell? ⟨w.heap.size + 1 + 1 + 1, 6, none⟩ = some (.int .i64 d4) := e3.cell 6
  have l7 : w5.cell? ⟨w.heap.size + 1 + 1 + 1, 7, none⟩ = some (.int .i64 d5) := e3.cell 7
  have l8 : w5.cell? ⟨w.heap.size + 1 + 1 + 1, 8, none⟩ = some (.int .i64 (-1)) := e3.cell 8
  have l9 : w5.cell? ⟨w.heap.size + 1 + 1 + 1, 9, none⟩ = some (.bool false) := e3.cell 9
  refine bodyPost_ret (v := .tuple #[.agg #[.int .i64 a, .int .i64 s, .int .i64 m, .slice (some ⟨bq, oq, none⟩) n cap, .int .i64 3, .int .i64 ((k : Int) + 1), .int .u64 0, .int .u64 g, .int .i64 15], .agg #[.slice (some ⟨gg, 0, none⟩) L cc, .slice (some ⟨gb, 0, none⟩) L L, .int .i64 d0, .int .i64 d1, .int .i64 d2, .int .i64 d3, .int .i64 d4, .int .i64 d5, .int .i64 (-1), .bool false]]) (by simp [results, Try.results22, go_sem, g0, g1, g2, g3, g4, g5, g6, g7, g8, l0, l1, l2, l3, l4, l5, l6, l7, l8, l9]) rfl ⟨gg, cc, d0, d1, d2, d3, d4, d5, by (try rw [List.length_set]); rw [HLL.out], hr5, .inr H2.out.2.2.2.2.2.1, hb5⟩

set_option maxHeartbeats 4000000 in
set_option maxRecDepth 100000 in
theorem refop1cg (gw cw gb : Nat) (c0 c1 c2 c3 c4 c5 : Int) (ws : List Nat) (a s m k p g code : Nat) (n cap : Nat) (w : World) (hm : RefAt w gw gb ws) (wd bq oq : Nat) (hcw : w.cell? ⟨bq, oq + k, none⟩ = some (.int .i64 wd)) (hwd : wd < ws.length) (hkl : k < n) (hnl : n ≤ 64) (hs : s ≤ 1024) (hmm : m ≤ 1024) (hp : p < 18446744073709551616) (hg : g < 18446744073709551616) (hk : ¬ k = 0) (hx : ¬ ws.getD wd 0 < g) (hn : ¬ k + 1 < n) (h1 : ¬ p < (g)) (h2 : ¬ s < p - (g)) (h3 : s - (p - (g)) < m) :
    Calls Try.prog 22 #[.agg #[.int .i64 a, .int .i64 s, .int .i64 m, .slice (some ⟨bq, oq, none⟩) n cap, .int .i64 1, .int .i64 k, .int .u64 p, .int .u64 g, .int .i64 code], .agg #[.slice (some ⟨gw, 0, none⟩) ws.length cw, .slice (some ⟨gb, 0, none⟩) ws.length ws.length, .int .i64 c0, .int .i64 c1, .int .i64 c2, .int .i64 c3, .int .i64 c4, .int .i64 c5, .int .i64 (-1), .bool false]] w fun e w' => RefTold17 w gw gb ws [.int .i64 a, .int .i64 s, .int .i64 m, .slice (some ⟨bq, oq, none⟩) n cap, .int .i64 3, .int .i64 ((k : Int) + 1), .int .u64 0, .int .u64 g, .int .i64 15] e w' := by
  have HM := Lib.hid hm
  have HL := Lib.hid (fun W (h : RefAt W gw gb ws) => refload_same gw cw gb c0 c1 c2 c3 c4 c5 ws wd W h hwd)
  have hxl := hm.getD_lt wd
  obtain ⟨x, hxx⟩ : ∃ x, ws.getD wd 0 = x := ⟨_, rfl⟩
  rw [hxx] at HL hxl hx
  have ek := wk1 hkl hnl
  have i1 : (k : Int) < (n : Int) := Int.ofNat_lt.2 hkl
  have i0 : (0 : Int) ≤ (k : Int) := Int.natCast_nonneg k
  have tk := kz hk
  have tx := dlt hx
  have tn := dk0 hn
  have t1 := dle h1
  obtain ⟨d, hd⟩ : ∃ d, p - g = d := ⟨_, rfl⟩
  have wd0 := wsub hp h1 hd
  have es := wsm hs
  have em := wsm hmm
  rw [hd] at h2 h3
  have t2 := dlt h2
  obtain ⟨r, hr⟩ : ∃ r, s - d = r := ⟨_, rfl⟩
  have ws2 := wsub (Nat.lt_of_le_of_lt hs (by decide)) h2 hr
  rw [hr] at h3
  have t3 : decide (r < m) = true := decide_eq_true h3
  have cwk := fun o1 o2 o3 o4 o5 => kalloc o5 (kalloc o4 (kalloc o3 (kalloc o2 (kalloc o1 hcw))))
  have HBD := Lib.hid (And.intro hkl hnl)
  clear hwd hcw hxx hk hn hkl hnl hs hmm hp hg hx h1 h2 h3 hd hr
  clear hxl
  clear hm
  go_enter Try.func22, Try.ntmps22
  go_wp2_with fail
  obtain ⟨W1, hW1⟩ : ∃ W1, W1 = ((((w.alloc (Obj.cells #[.int .i64 a, .int .i64 s, .int .i64 m, .slice (some ⟨bq, oq, none⟩) n cap, .int .i64 1, .int .i64 k, .int .u64 p, .int .u64 g, .int .i64 code] 62)).alloc (Obj.cells #[.slice (some ⟨gw, 0, none⟩) ws.length cw, .slice (some ⟨gb, 0, none⟩) ws.length ws.length, .int .i64 c0, .int .i64 c1, .int .i64 c2, .int .i64 c3, .int .i64 c4, .int .i64 c5, .int .i64 (-1), .bool false] 56)).alloc (Obj.cells #[.int .i64 0, .int .i64 0, .int .i64 0, .slice none 0 0, .int .i64 0, .int .i64 0, .int .u64 0, .int .u64 0, .int .i64 0] 62)).alloc (Obj.cells #[.slice none 0 0, .slice none 0 0, .int .i64 0, .int .i64 0, .int .i64 0, .int .i64 0, .int .i64 0, .int .i64 0, .int .i64 0, .bool false] 56)).alloc (Obj.cells #[.int .i64 0, .int .i64 wd, .int .u64 0, .int .u64 0, .int .u64 0, .int .u64 0] 80) := ⟨_, rfl⟩
  rw [← hW1]
  have b0 : Blk W1 (w.heap.size) 62 [.int .i64 a, .int .i64 s, .int .i64 m, .slice (some ⟨bq, oq, none⟩) n cap, .int .i64 1, .int .i64 k, .int .u64 p, .int .u64 g, .int .i64 code] := by rw [hW1]; exact ((((blk_new w 62 _ _ rfl).alloc _).alloc _).alloc _).alloc _
  have b2 : Blk W1 (w.heap.size + 1 + 1) 62 [.int .i64 0, .int .i64 0, .int .i64 0, .slice none 0 0, .int .i64 0, .int .i64 0, .int .u64 0, .int .u64 0, .int .i64 0] := by
    have b := blk_new ((w.alloc (Obj.cells #[.int .i64 a, .int .i64 s, .int .i64 m, .slice (some ⟨bq, oq, none⟩) n cap, .int .i64 1, .int .i64 k, .int .u64 p, .int .u64 g, .int .i64 code] 62)).alloc (Obj.cells #[.slice (some ⟨gw, 0, none⟩) ws.length cw, .slice (some ⟨gb, 0, none⟩) ws.length ws.length, .int .i64 c0, .int .i64 c1, .int .i64 c2, .int .i64 c3, .int .i64 c4, .int .i64 c5, .int .i64 (-1), .bool false] 56)) 62 #[.int .i64 0, .int .i64 0, .int .i64 0, .slice none 0 0, .int .i64 0, .int .i64 0, .int .u64 0, .int .u64 0, .int .i64 0] _ rfl
    simp only [World.size_alloc] at b
    rw [hW1]; exact (b.alloc _).alloc _
  have b3 : Blk W1 (w.heap.size + 1 + 1 + 1) 56 [.slice none 0 0, .slice none 0 0, .int .i64 0, .int .i64 0, .int .i64 0, .int .i64 0, .int .i64 0, .int .i64 0, .int .i64 0, .bool false] := by
    have b := blk_new (((w.alloc (Obj.cells #[.int .i64 a, .int .i64 s, .int .i64 m, .slice (some ⟨bq, oq, none⟩) n cap, .int .i64 1, .int .i64 k, .int .u64 p, .int .u64 g, .int .i64 code] 62)).alloc (Obj.cells #[.slice (some ⟨gw, 0, none⟩) ws.length cw, .slice (some ⟨gb, 0, none⟩) ws.length ws.length, .int .i64 c0, .int .i64 c1, .int .i64 c2, .int .i64 c3, .int .i64 c4, .int .i64 c5, .int .i64 (-1), .bool false] 56)).alloc (Obj.cells #[.int .i64 0, .int .i64 0, .int .i64 0, .slice none 0 0, .int .i64 0, .int .i64 0, .int .u64 0, .int .u64 0, .int .i64 0] 62)) 56 #[.slice none 0 0, .slice none 0 0, .int .i64 0, .int .i64 0, .int .i64 0, .int .i64 0, .int .i64 0, .int .i64 0, .int .i64 0, .bool false] _ rfl
    simp only [World.size_alloc] at b
    rw [hW1]; exact b.alloc _
  have hb1 : Below w.heap.size w W1 := by rw [hW1]; exact bnew (bnew (bnew (bnew (bnew (Below.refl _ _) _) _) _) _) _
  have H1 := Lib.hid (And.intro b0 (And.intro b2 (And.intro b3 hb1)))
  clear b0 b2 b3 hb1 hW1
  refine (HL.out W1 (HM.out.below H1.out.2.2.2)).mono ?_; rintro e w2 hto
  obtain ⟨gg, cc, d0, d1, d2, d3, d4, d5, he, hr, hgg, hb⟩ := hto
  (try simp only [List.length_set] at he hr)
  obtain ⟨L, hL⟩ : ∃ L, ws.length = L := ⟨_, rfl⟩
  rw [hL] at he
  have HLL := Lib.hid hL
  clear hL
  subst he
  have hch := chg_of_below (fun _ => False) hb
  have b0 := H1.out.1.chg hch (fun h => h)
  have b2 := H1.out.2.1.chg hch (fun h => h)
  have b3 := H1.out.2.2.1.chg hch (fun h => h)
  have hb2 := bseq H1.out.2.2.2 hb
  have hg0 : w.heap.size ≤ gg := by have := H1.out.2.2.2.size; omega
  have hg1 : gg ≠ w.heap.size ∧ gg ≠ w.heap.size + 1 + 1 ∧ gg ≠ w.heap.size + 1 + 1 + 1 := by have := H1.out.1.lt; have := H1.out.2.1.lt; have := H1.out.2.2.1.lt; omega
  have H2 := Lib.hid (And.intro b0 (And.intro b2 (And.intro b3 (And.intro hb2 (And.intro hr (And.intro hg0 hg1))))))
  clear hch b0 b2 b3 hb2 hr hgg hb hg0 hg1
  go_upto_region 10 with fail
  have b0 := H2.out.1.alloc (Obj.cells #[.slice (some ⟨gg, 0, none⟩) L cc, .slice (some ⟨gb, 0, none⟩) L L, .int .i64 d0, .int .i64 d1, .int .i64 d2, .int .i64 d3, .int .i64 d4, .int .i64 d5, .int .i64 (-1), .bool false] 56)
  have b2 := H2.out.2.1.alloc (Obj.cells #[.slice (some ⟨gg, 0, none⟩) L cc, .slice (some ⟨gb, 0, none⟩) L L, .int .i64 d0, .int .i64 d1, .int .i64 d2, .int .i64 d3, .int .i64 d4, .int .i64 d5, .int .i64 (-1), .bool false] 56)
  have b3 := H2.out.2.2.1.alloc (Obj.cells #[.slice (some ⟨gg, 0, none⟩) L cc, .slice (some ⟨gb, 0, none⟩) L L, .int .i64 d0, .int .i64 d1, .int .i64 d2, .int .i64 d3, .int .i64 d4, .int .i64 d5, .int .i64 (-1), .bool false] 56)
  have bt : Blk (w2.alloc (Obj.cells #[.slice (some ⟨gg, 0, none⟩) L cc, .slice (some ⟨gb, 0, none⟩) L L, .int .i64 d0, .int .i64 d1, .int .i64 d2, .int .i64 d3, .int .i64 d4, .int .i64 d5, .int .i64 (-1), .bool false] 56)) w2.heap.size 56 [.slice (some ⟨gg, 0, none⟩) L cc, .slice (some ⟨gb, 0, none⟩) L L, .int .i64 d0, .int .i64 d1, .int .i64 d2, .int .i64 d3, .int .i64 d4, .int .i64 d5, .int .i64 (-1), .bool false] := blk_new w2 56 _ _ rfl
  have hb3 := bnew H2.out.2.2.2.1 (Obj.cells #[.slice (some ⟨gg, 0, none⟩) L cc, .slice (some ⟨gb, 0, none⟩) L L, .int .i64 d0, .int .i64 d1, .int .i64 d2, .int .i64 d3, .int .i64 d4, .int .i64 d5, .int .i64 (-1), .bool false] 56)
  have hr3 := H2.out.2.2.2.2.1.below (bnew (Below.refl _ _) (Obj.cells #[.slice (some ⟨gg, 0, none⟩) L cc, .slice (some ⟨gb, 0, none⟩) L L, .int .i64 d0, .int .i64 d1, .int .i64 d2, .int .i64 d3, .int .i64 d4, .int .i64 d5, .int .i64 (-1), .bool false] 56))
  have hlt : w.heap.size + 1 + 1 + 1 < w2.heap.size := H2.out.2.2.1.lt
  generalize w2.alloc (Obj.cells #[.slice (some ⟨gg, 0, none⟩) L cc, .slice (some ⟨gb, 0, none⟩) L L, .int .i64 d0, .int .i64 d1, .int .i64 d2, .int .i64 d3, .int .i64 d4, .int .i64 d5, .int .i64 (-1), .bool false] 56) = w3 at b0 b2 b3 bt hb3 hr3 ⊢
  generalize w2.heap.size = tt at bt hlt ⊢
  have f0 : w3.cell? ⟨w.heap.size, 0, none⟩ = some (.int .i64 a) := b0.cell 0
  have f1 : w3.cell? ⟨w.heap.size, 1, none⟩ = some (.int .i64 s) := b0.cell 1
  have f2 : w3.cell? ⟨w.heap.size, 2, none⟩ = some (.int .i64 m) := b0.cell 2
  have f3 : w3.cell? ⟨w.heap.size, 3, none⟩ = some (.slice (some ⟨bq, oq, none⟩) n cap) := b0.cell 3
  have f4 : w3.cell? ⟨w.heap.size, 4, none⟩ = some (.int .i64 1) := b0.cell 4
  have f5 : w3.cell? ⟨w.heap.size, 5, none⟩ = some (.int .i64 k) := b0.cell 5
  have f6 : w3.cell? ⟨w.heap.size, 6, none⟩ = some (.int .u64 p) := b0.cell 6
  have f7 : w3.cell? ⟨w.heap.size, 7, none⟩ = some (.int .u64 g) := b0.cell 7
  have f8 : w3.cell? ⟨w.heap.size, 8, none⟩ = some (.int .i64 code) := b0.cell 8
  have z4 := b0.free 4
  have z5 := b0.free 5
  have z6 := b0.free 6
  have z8 := b0.free 8
  have H3 := Lib.hid (And.intro b0 (And.intro b2 (And.intro b3 (And.intro bt (And.intro hb3 (And.intro hr3 hlt))))))
  clear b0 b2 b3 bt hb3 hr3
  go_upto_region 34 with fail
  have b0 : Blk (((((w3.setCell ⟨w.heap.size, 5, none⟩ (.int .i64 ((k : Int) + 1))).setCell ⟨w.heap.size, 4, none⟩ (.int .i64 2)).setCell ⟨w.heap.size, 4, none⟩ (.int .i64 3)).setCell ⟨w.heap.size, 8, none⟩ (.int .i64 15)).setCell ⟨w.heap.size, 6, none⟩ (.int .u64 0)) (w.heap.size) 62 [.int .i64 a, .int .i64 s, .int .i64 m, .slice (some ⟨bq, oq, none⟩) n cap, .int .i64 3, .int .i64 ((k : Int) + 1), .int .u64 0, .int .u64 g, .int .i64 15] := (((((H3.out.1.set 5 (.int .i64 ((k : Int) + 1))).set 4 (.int .i64 2)).set 4 (.int .i64 3)).set 8 (.int .i64 15)).set 6 (.int .u64 0))
  have hch : Chg (fun j => j = w.heap.size) w3 (((((w3.setCell ⟨w.heap.size, 5, none⟩ (.int .i64 ((k : Int) + 1))).setCell ⟨w.heap.size, 4, none⟩ (.int .i64 2)).setCell ⟨w.heap.size, 4, none⟩ (.int .i64 3)).setCell ⟨w.heap.size, 8, none⟩ (.int .i64 15)).setCell ⟨w.heap.size, 6, none⟩ (.int .u64 0)) := ((((((Chg.refl (fun j => j = w.heap.size) w3).setCell ⟨w.heap.size, 5, none⟩ (.int .i64 ((k : Int) + 1)) (fun _ => rfl)).setCell ⟨w.heap.size, 4, none⟩ (.int .i64 2) (fun _ => rfl)).setCell ⟨w.heap.size, 4, none⟩ (.int .i64 3) (fun _ => rfl)).setCell ⟨w.heap.size, 8, none⟩ (.int .i64 15) (fun _ => rfl)).setCell ⟨w.heap.size, 6, none⟩ (.int .u64 0) (fun _ => rfl))
  generalize (((((w3.setCell ⟨w.heap.size, 5, none⟩ (.int .i64 ((k : Int) + 1))).setCell ⟨w.heap.size, 4, none⟩ (.int .i64 2)).setCell ⟨w.heap.size, 4, none⟩ (.int .i64 3)).setCell ⟨w.heap.size, 8, none⟩ (.int .i64 15)).setCell ⟨w.heap.size, 6, none⟩ (.int .u64 0)) = w4 at b0 hch ⊢
  have b2 := H3.out.2.1.chg hch (fun e => by omega)
  have b3 := H3.out.2.2.1.chg hch (fun e => by omega)
  have bt := H3.out.2.2.2.1.chg hch (fun e => by have := H3.out.2.2.2.2.2.2; omega)
  have hb4 := Chg.below H3.out.2.2.2.2.1 hch H3.out.2.2.2.2.1.size (fun k hk => by omega)
  have hr4 := H3.out.2.2.2.2.2.1.chg hch (fun e => by have := H2.out.2.2.2.2.2.2.1; omega) (fun e => by have := HM.out.marks.lt; omega)
  clear f0 f1 f2 f3 f4 f5 f6 f7 f8 z4 z5 z6 z8
  have f0 : w4.cell? ⟨w.heap.size, 0, none⟩ = some (.int .i64 a) := b0.cell 0
  have f1 : w4.cell? ⟨w.heap.size, 1, none⟩ = some (.int .i64 s) := b0.cell 1
  have f2 : w4.cell? ⟨w.heap.size, 2, none⟩ = some (.int .i64 m) := b0.cell 2
  have f3 : w4.cell? ⟨w.heap.size, 3, none⟩ = some (.slice (some ⟨bq, oq, none⟩) n cap) := b0.cell 3
  have f4 : w4.cell? ⟨w.heap.size, 4, none⟩ = some (.int .i64 3) := b0.cell 4
  have f5 : w4.cell? ⟨w.heap.size, 5, none⟩ = some (.int .i64 ((k : Int) + 1)) := b0.cell 5
  have f6 : w4.cell? ⟨w.heap.size, 6, none⟩ = some (.int .u64 0) := b0.cell 6
  have f7 : w4.cell? ⟨w.heap.size, 7, none⟩ = some (.int .u64 g) := b0.cell 7
  have f8 : w4.cell? ⟨w.heap.size, 8, none⟩ = some (.int .i64 15) := b0.cell 8
  have t0 : w4.cell? ⟨tt, 0, none⟩ = some (.slice (some ⟨gg, 0, none⟩) L cc) := bt.cell 0
  have t1 : w4.cell? ⟨tt, 1, none⟩ = some (.slice (some ⟨gb, 0, none⟩) L L) := bt.cell 1
  have t2 : w4.cell? ⟨tt, 2, none⟩ = some (.int .i64 d0) := bt.cell 2
  have t3 : w4.cell? ⟨tt, 3, none⟩ = some (.int .i64 d1) := bt.cell 3
  have t4 : w4.cell? ⟨tt, 4, none⟩ = some (.int .i64 d2) := bt.cell 4
  have t5 : w4.cell? ⟨tt, 5, none⟩ = some (.int .i64 d3) := bt.cell 5
  have t6 : w4.cell? ⟨tt, 6, none⟩ = some (.int .i64 d4) := bt.cell 6
  have t7 : w4.cell? ⟨tt, 7, none⟩ = some (.int .i64 d5) := bt.cell 7
  have t8 : w4.cell? ⟨tt, 8, none⟩ = some (.int .i64 (-1)) := bt.cell 8
  have t9 : w4.cell? ⟨tt, 9, none⟩ = some (.bool false) := bt.cell 9
  have g0 : w4.cell? ⟨w.heap.size + 1 + 1, 0, none⟩ = some (.int .i64 0) := b2.cell 0
  have y0 := b2.free 0
  have g1 : w4.cell? ⟨w.heap.size + 1 + 1, 1, none⟩ = some (.int .i64 0) := b2.cell 1
  have y1 := b2.free 1
  have g2 : w4.cell? ⟨w.heap.size + 1 + 1, 2, none⟩ = some (.int .i64 0) := b2.cell 2
  have y2 := b2.free 2
  have g3 : w4.cell? ⟨w.heap.size + 1 + 1, 3, none⟩ = some (.slice none 0 0) := b2.cell 3
  have y3 := b2.free 3
  have g4 : w4.cell? ⟨w.heap.size + 1 + 1, 4, none⟩ = some (.int .i64 0) := b2.cell 4
  have y4 := b2.free 4
  have g5 : w4.cell? ⟨w.heap.size + 1 + 1, 5, none⟩ = some (.int .i64 0) := b2.cell 5
  have y5 := b2.free 5
  have g6 : w4.cell? ⟨w.heap.size + 1 + 1, 6, none⟩ = some (.int .u64 0) := b2.cell 6
  have y6 := b2.free 6
  have g7 : w4.cell? ⟨w.heap.size + 1 + 1, 7, none⟩ = some (.int .u64 0) := b2.cell 7
  have y7 := b2.free 7
  have g8 : w4.cell? ⟨w.heap.size + 1 + 1, 8, none⟩ = some (.int .i64 0) := b2.cell 8
  have y8 := b2.free 8
  have l0 : w4.cell? ⟨w.heap.size + 1 + 1 + 1, 0, none⟩ = some (.slice none 0 0) := b3.cell 0
  have x0 := b3.free 0
  have l1 : w4.cell? ⟨w.heap.size + 1 + 1 + 1, 1, none⟩ = some (.slice none 0 0) := b3.cell 1
  have x1 := b3.free 1
  have l2 : w4.cell? ⟨w.heap.size + 1 + 1 + 1, 2, none⟩ = some (.int .i64 0) := b3.cell 2
  have x2 := b3.free 2
  have l3 : w4.cell? ⟨w.heap.size + 1 + 1 + 1, 3, none⟩ = some (.int .i64 0) := b3.cell 3
  have x3 := b3.free 3
  have l4 : w4.cell? ⟨w.heap.size + 1 + 1 + 1, 4, none⟩ = some (.int .i64 0) := b3.cell 4
  have x4 := b3.free 4
  have l5 : w4.cell? ⟨w.heap.size + 1 + 1 + 1, 5, none⟩ = some (.int .i64 0) := b3.cell 5
  have x5 := b3.free 5
  have l6 : w4.cell? ⟨w.heap.size + 1 + 1 + 1, 6, none⟩ = some (.int .i64 0) := b3.cell 6
  have x6 := b3.free 6
  have l7 : w4.cell? ⟨w.heap.size + 1 + 1 + 1, 7, none⟩ = some (.int .i64 0) := b3.cell 7
  have x7 := b3.free 7
  have l8 : w4.cell? ⟨w.heap.size + 1 + 1 + 1, 8, none⟩ = some (.int .i64 0) := b3.cell 8
  have x8 := b3.free 8
  have l9 : w4.cell? ⟨w.heap.size + 1 + 1 + 1, 9, none⟩ = some (.bool false) := b3.cell 9
  have x9 := b3.free 9
  have H4 := Lib.hid (And.intro b0 (And.intro b2 (And.intro b3 (And.intro bt (And.intro hb4 hr4)))))
  have hn1 : ¬ tt = w.heap.size + 1 + 1 := by omega
  have hn2 : ¬ tt = w.heap.size + 1 + 1 + 1 := by omega
  clear b0 b2 b3 bt hb4 hr4 hch
  go_region
  all_goals go_wp2
  clear f0 f1 f2 f3 f4 f5 f6 f7 f8 t0 t1 t2 t3 t4 t5 t6 t7 t8 t9 g0 y0 g1 y1 g2 y2 g3 y3 g4 y4 g5 y5 g6 y6 g7 y7 g8 y8 l0 x0 l1 x1 l2 x2 l3 x3 l4 x4 l5 x5 l6 x6 l7 x7 l8 x8 l9 x9 hn1 hn2
  obtain ⟨e2, hc2⟩ := set9 H4.out.2.1 (.int .i64 a) (.int .i64 s) (.int .i64 m) (.slice (some ⟨bq, oq, none⟩) n cap) (.int .i64 3) (.int .i64 ((k : Int) + 1)) (.int .u64 0) (.int .u64 g) (.int .i64 15)
  have e3 := H4.out.2.2.1.chg hc2 (fun e => by omega)
  obtain ⟨e3, hc3⟩ := set10 e3 (.slice (some ⟨gg, 0, none⟩) L cc) (.slice (some ⟨gb, 0, none⟩) L L) (.int .i64 d0) (.int .i64 d1) (.int .i64 d2) (.int .i64 d3) (.int .i64 d4) (.int .i64 d5) (.int .i64 (-1)) (.bool false)
  have e2 := e2.chg hc3 (fun e => by omega)
  have hb5 := Chg.below (Chg.below H4.out.2.2.2.2.1 hc2 H4.out.2.2.2.2.1.size (fun k hk => by omega)) hc3 (by have := hc2.size; have := H4.out.2.2.2.2.1.size; omega) (fun k hk => by omega)
  have hgl := HM.out.marks.lt
  have hr5 := (H4.out.2.2.2.2.2.chg hc2 (fun e => by have := H2.out.2.2.2.2.2.2.2.1; omega) (fun e => by omega)).chg hc3 (fun e => by have := H2.out.2.2.2.2.2.2.2.2; omega) (fun e => by omega)
  have e2 := e2.drew
  have e3 := e3.drew
  have hb5 := hb5.drew
  have hr5 := hr5.drew
  generalize (((((((((((((((((((w4.setCell ⟨w.heap.size + 1 + 1, 0, none⟩ (.int .i64 a)).setCell ⟨w.heap.size + 1 + 1, 1, none⟩ (.int .i64 s)).setCell ⟨w.heap.size + 1 + 1, 2, none⟩ (.int .i64 m)).setCell ⟨w.heap.size + 1 + 1, 3, none⟩ (.slice (some ⟨bq, oq, none⟩) n cap)).setCell ⟨w.heap.size + 1 + 1, 4, none⟩ (.int .i64 3)).setCell ⟨w.heap.size + 1 + 1, 5, none⟩ (.int .i64 ((k : Int) + 1))).setCell ⟨w.heap.size + 1 + 1, 6, none⟩ (.int .u64 0)).setCell ⟨w.heap.size + 1 + 1, 7, none⟩ (.int .u64 g)).setCell ⟨w.heap.size + 1 + 1, 8, none⟩ (.int .i64 15)).setCell ⟨w.heap.size + 1 + 1 + 1, 0, none⟩ (.slice (some ⟨gg, 0, none⟩) L cc)).setCell ⟨w.heap.size + 1 + 1 + 1, 1, none⟩ (.slice (some ⟨gb, 0, none⟩) L L)).setCell ⟨w.heap.size + 1 + 1 + 1, 2, none⟩ (.int .i64 d0)).setCell ⟨w.heap.size + 1 + 1 + 1, 3, none⟩ (.int .i64 d1)).setCell ⟨w.heap.size + 1 + 1 + 1, 4, none⟩ (.int .i64 d2)).setCell ⟨w.heap.size + 1 + 1 + 1, 5, none⟩ (.int .i64 d3)).setCell ⟨w.heap.size + 1 + 1 + 1, 6, none⟩ (.int .i64 d4)).setCell ⟨w.heap.size + 1 + 1 + 1, 7, none⟩ (.int .i64 d5)).setCell ⟨w.heap.size + 1 + 1 + 1, 8, none⟩ (.int .i64 (-1))).setCell ⟨w.heap.size + 1 + 1 + 1, 9, none⟩ (.bool false)).drew = w5 at e2 e3 hb5 hr5 ⊢
  have g0 : w5.cell? ⟨w.heap.size + 1 + 1, 0, none⟩ = some (.int .i64 a) := e2.cell 0
  have g1 : w5.cell? ⟨w.heap.size + 1 + 1, 1, none⟩ = some (.int .i64 s) := e2.cell 1
  have g2 : w5.cell? ⟨w.heap.size + 1 + 1, 2, none⟩ = some (.int .i64 m) := e2.cell 2
  have g3 : w5.cell? ⟨w.heap.size + 1 + 1, 3, none⟩ = some (.slice (some ⟨bq, oq, none⟩) n cap) := e2.cell 3
  have g4 : w5.cell? ⟨w.heap.size + 1 + 1, 4, none⟩ = some (.int .i64 3) := e2.cell 4
  have g5 : w5.cell? ⟨w.heap.size + 1 + 1, 5, none⟩ = some (.int .i64 ((k : Int) + 1)) := e2.cell 5
  have g6 : w5.cell? ⟨w.heap.size + 1 + 1, 6, none⟩ = some (.int .u64 0) := e2.cell 6
  have g7 : w5.cell? ⟨w.heap.size + 1 + 1, 7, none⟩ = some (.int .u64 g) := e2.cell 7
  have g8 : w5.cell? ⟨w.heap.size + 1 + 1, 8, none⟩ = some (.int .i64 15) := e2.cell 8
  have l0 : w5.cell? ⟨w.heap.size + 1 + 1 + 1, 0, none⟩ = some (.slice (some ⟨gg, 0, none⟩) L cc) := e3.cell 0
  have l1 : w5.cell? ⟨w.heap.size + 1 + 1 + 1, 1, none⟩ = some (.slice (some ⟨gb, 0, none⟩) L L) := e3.cell 1
  have l2 : w5.cell? ⟨w.heap.size + 1 + 1 + 1, 2, none⟩ = some (.int .i64 d0) := e3.cell 2
  have l3 : w5.cell? ⟨w.heap.size + 1 + 1 + 1, 3, none⟩ = some (.int .i64 d1) := e3.cell 3
  have l4 : w5.cell? ⟨w.heap.size + 1 + 1 + 1, 4, none⟩ = some (.int .i64 d2) := e3.cell 4
  have l5 : w5.cell? ⟨w.heap.size + 1 + 1 + 1, 5, none⟩ = some (.int .i64 d3) := e3.cell 5
  have l6 : w5.cell? ⟨w.heap.size + 1 + 1 + 1, 6, none⟩ = some (.int .i64 d4) := e3.cell 6
  have l7 : w5.cell? ⟨w.heap.size + 1 + 1 + 1, 7, none⟩ = some (.int .i64 d5) := e3.cell 7
  have l8 : w5.cell? ⟨w.heap.size + 1 + 1 + 1, 8, none⟩ = some (.int .i64 (-1)) := e3.cell 8
  have l9 : w5.cell? ⟨w.heap.size + 1 + 1 + 1, 9, none⟩ = some (.bool false) := e3.cell 9
  refine bodyPost_ret (v := .tuple #[.agg #[.int .i64 a, .int .i64 s, .int .i64 m, .slice (some ⟨bq, oq, none⟩) n cap, .int .i64 3, .int .i64 ((k : Int) + 1), .int .u64 0, .int .u64 g, .int .i64 15], .agg #[.slice (some ⟨gg, 0, none⟩) L cc, .slice (some ⟨gb, 0, none⟩) L L, .int .i64 d0, .int .i64 d1, .int .i64 d2, .int .i64 d3, .int .i64 d4, .int .i64 d5, .int .i64 (-1), .bool false]]) (by simp [results, Try.results22, go_sem, g0, g1, g2, g3, g4, g5, g6, g7, g8, l0, l1, l2, l3, l4, l5, l6, l7, l8, l9]) rfl ⟨gg, cc, d0, d1, d2, d3, d4, d5, by (try rw [List.length_set]); rw [HLL.out], hr5, .inr H2.out.2.2.2.2.2.1, hb5⟩

set_option maxHeartbeats 4000000 in
set_option maxRecDepth 100000 in
theorem refop1ch (gw cw gb : Nat) (c0 c1 c2 c3 c4 c5 : Int) (ws : List Nat) (a s m k p g code : Nat) (n cap : Nat) (w : World) (hm : RefAt w gw gb ws) (wd bq oq : Nat) (hcw : w.cell? ⟨bq, oq + k, none⟩ = some (.int .i64 wd)) (hwd : wd < ws.length) (hkl : k < n) (hnl : n ≤ 64) (hs : s ≤ 1024) (hmm : m ≤ 1024) (hp : p < 18446744073709551616) (hg : g < 18446744073709551616) (hk : ¬ k = 0) (hx : ¬ ws.getD wd 0 < g) (hn : ¬ k + 1 < n) (h1 : ¬ p < (g)) (h2 : ¬ s < p - (g)) (h3 : ¬ s - (p - (g)) < m) :
    Calls Try.prog 22 #[.agg #[.int .i64 a, .int .i64 s, .int .i64 m, .slice (some ⟨bq, oq, none⟩) n cap, .int .i64 1, .int .i64 k, .int .u64 p, .int .u64 g, .int .i64 code], .agg #[.slice (some ⟨gw, 0, none⟩) ws.length cw, .slice (some ⟨gb, 0, none⟩) ws.length ws.length, .int .i64 c0, .int .i64 c1, .int .i64 c2, .int .i64 c3, .int .i64 c4, .int .i64 c5, .int .i64 (-1), .bool false]] w fun e w' => RefTold17 w gw gb ws [.int .i64 a, .int .i64 s, .int .i64 m, .slice (some ⟨bq, oq, none⟩) n cap, .int .i64 2, .int .i64 ((k : Int) + 1), .int .u64 p, .int .u64 g, .int .i64 code] e w' := by
  have HM := Lib.hid hm
  have HL := Lib.hid (fun W (h : RefAt W gw gb ws) => refload_same gw cw gb c0 c1 c2 c3 c4 c5 ws wd W h hwd)
  have hxl := hm.getD_lt wd
  obtain ⟨x, hxx⟩ : ∃ x, ws.getD wd 0 = x := ⟨_, rfl⟩
  rw [hxx] at HL hxl hx
  have ek := wk1 hkl hnl
  have i1 : (k : Int) < (n : Int) := Int.ofNat_lt.2 hkl
  have i0 : (0 : Int) ≤ (k : Int) := Int.natCast_nonneg k
  have tk := kz hk
  have tx := dlt hx
  have tn := dk0 hn
  have t1 := dle h1
  obtain ⟨d, hd⟩ : ∃ d, p - g = d := ⟨_, rfl⟩
  have wd0 := wsub hp h1 hd
  have es := wsm hs
  have em := wsm hmm
  rw [hd] at h2 h3
  have t2 := dlt h2
  obtain ⟨r, hr⟩ : ∃ r, s - d = r := ⟨_, rfl⟩
  have ws2 := wsub (Nat.lt_of_le_of_lt hs (by decide)) h2 hr
  rw [hr] at h3
  have t3 := dlt h3
  have cwk := fun o1 o2 o3 o4 o5 => kalloc o5 (kalloc o4 (kalloc o3 (kalloc o2 (kalloc o1 hcw))))
  have HBD := Lib.hid (And.intro hkl hnl)
  clear hwd hcw hxx hk hn hkl hnl hs hmm hp hg hx h1 h2 h3 hd hr
  clear hxl
  clear hm
  go_enter Try.func22, Try.ntmps22
  go_wp2_with fail
  obtain ⟨W1, hW1⟩ : ∃ W1, W1 = ((((w.alloc (Obj.cells #[.int .i64 a, .int .i64 s, .int .i64 m, .slice (some ⟨bq, oq, none⟩) n cap, .int .i64 1, .int .i64 k, .int .u64 p, .int .u64 g, .int .i64 code] 62)).alloc (Obj.cells #[.slice (some ⟨gw, 0, none⟩) ws.length cw, .slice (some ⟨gb, 0, none⟩) ws.length ws.length, .int .i64 c0, .int .i64 c1, .int .i64 c2, .int .i64 c3, .int .i64 c4, .int .i64 c5, .int .i64 (-1), .bool false] 56)).alloc (Obj.cells #[.int .i64 0, .int .i64 0, .int .i64 0, .slice none 0 0, .int .i64 0, .int .i64 0, .int .u64 0, .int .u64 0, .int .i64 0] 62)).alloc (Obj.cells #[.slice none 0 0, .slice none 0 0, .int .i64 0, .int .i64 0, .int .i64 0, .int .i64 0, .int .i64 0, .int .i64 0, .int .i64 0, .bool false] 56)).alloc (Obj.cells #[.int .i64 0, .int .i64 wd, .int .u64 0, .int .u64 0, .int .u64 0, .int .u64 0] 80) := ⟨_, rfl⟩
  rw [← hW1]
  have b0 : Blk W1 (w.heap.size) 62 [.int .i64 a, .int .i64 s, .int .i64 m, .slice (some ⟨bq, oq, none⟩) n cap, .int .i64 1, .int .i64 k, .int .u64 p, .int .u64 g, .int .i64 code] := by rw [hW1]; exact ((((blk_new w 62 _ _ rfl).alloc _).alloc _).alloc _).alloc _
  have b2 : Blk W1 (w.heap.size + 1 + 1) 62 [.int .i64 0, .int .i64 0, .int .i64 0, .slice none 0 0, .int .i64 0, .int .i64 0, .int .u64 0, .int .u64 0, .int .i64 0] := by
    have b := blk_new ((w.alloc (Obj.cells #[.int .i64 a, .int .i64 s, .int .i64 m, .slice (some ⟨bq, oq, none⟩) n cap, .int .i64 1, .int .i64 k, .int .u64 p, .int .u64 g, .int .i64 code] 62)).alloc (Obj.cells #[.slice (some ⟨gw, 0, none⟩) ws.length cw, .slice (some ⟨gb, 0, none⟩) ws.length ws.length, .int .i64 c0, .int .i64 c1, .int .i64 c2, .int .i64 c3, .int .i64 c4, .int .i64 c5, .int .i64 (-1), .bool false] 56)) 62 #[.int .i64 0, .int .i64 0, .int .i64 0, .slice none 0 0, .int .i64 0, .int .i64 0, .int .u64 0, .int .u64 0, .int .i64 0] _ rfl
    simp only [World.size_alloc] at b
    rw [hW1]; exact (b.alloc _).alloc _
  have b3 : Blk W1 (w.heap.size + 1 + 1 + 1) 56 [.slice none 0 0, .slice none 0 0, .int .i64 0, .int .i64 0, .int .i64 0, .int .i64 0, .int .i64 0, .int .i64 0, .int .i64 0, .bool false] := by
    have b := blk_new (((w.alloc (Obj.cells #[.int .i64 a, .int .i64 s, .int .i64 m, .slice (some ⟨bq, oq, none⟩) n cap, .int .i64 1, .int .i64 k, .int .u64 p, .int .u64 g, .int .i64 code] 62)).alloc (Obj.cells #[.slice (some ⟨gw, 0, none⟩) ws.length cw, .slice (some ⟨gb, 0, none⟩) ws.length ws.length, .int .i64 c0, .int .i64 c1, .int .i64 c2, .int .i64 c3, .int .i64 c4, .int .i64 c5, .int .i64 (-1), .bool false] 56)).alloc (Obj.cells #[.int .i64 0, .int .i64 0, .int .i64 0, .slice none 0 0, .int .i64 0, .int .i64 0, .int .u64 0, .int .u64 0, .int .i64 0] 62)) 56 #[.slice none 0 0, .slice none 0 0, .int .i64 0, .int .i64 0, .int .i64 0, .int .i64 0, .int .i64 0, .int .i64 0, .int .i64 0, .bool false] _ rfl
    simp only [World.size_alloc] at b
    rw [hW1]; exact b.alloc _
  have hb1 : Below w.heap.size w W1 := by rw [hW1]; exact bnew (bnew (bnew (bnew (bnew (Below.refl _ _) _) _) _) _) _
  have H1 := Lib.hid (And.intro b0 (And.intro b2 (And.intro b3 hb1)))
  clear b0 b2 b3 hb1 hW1
  refine (HL.out W1 (HM.out.below H1.out.2.2.2)).mono ?_; rintro e w2 hto
  obtain ⟨gg, cc, d0, d1, d2, d3, d4, d5, he, hr, hgg, hb⟩ := hto
  (try simp only [List.length_set] at he hr)
  obtain ⟨L, hL⟩ : ∃ L, ws.length = L := ⟨_, rfl⟩
  rw [hL] at he
  have HLL := Lib.hid hL
  clear hL
  subst he
  have hch := chg_of_below (fun _ => False) hb
  have b0 := H1.out.1.chg hch (fun h => h)
  have b2 := H1.out.2.1.chg hch (fun h => h)
  have b3 := H1.out.2.2.1.chg hch (fun h => h)
  have hb2 := bseq H1.out.2.2.2 hb
  have hg0 : w.heap.size ≤ gg := by have := H1.out.2.2.2.size; omega
  have hg1 : gg ≠ w.heap.size ∧ gg ≠ w.heap.size + 1 + 1 ∧ gg ≠ w.heap.size + 1 + 1 + 1 := by have := H1.out.1.lt; have := H1.out.2.1.lt; have := H1.out.2.2.1.lt; omega
  have H2 := Lib.hid (And.intro b0 (And.intro b2 (And.intro b3 (And.intro hb2 (And.intro hr (And.intro hg0 hg1))))))
  clear hch b0 b2 b3 hb2 hr hgg hb hg0 hg1
  go_upto_region 10 with fail
  have b0 := H2.out.1.alloc (Obj.cells #[.slice (some ⟨gg, 0, none⟩) L cc, .slice (some ⟨gb, 0, none⟩) L L, .int .i64 d0, .int .i64 d1, .int .i64 d2, .int .i64 d3, .int .i64 d4, .int .i64 d5, .int .i64 (-1), .bool false] 56)
  have b2 := H2.out.2.1.alloc (Obj.cells #[.slice (some ⟨gg, 0, none⟩) L cc, .slice (some ⟨gb, 0, none⟩) L L, .int .i64 d0, .int .i64 d1, .int .i64 d2, .int .i64 d3, .int .i64 d4, .int .i64 d5, .int .i64 (-1), .bool false] 56)
  have b3 := H2.out.2.2.1.alloc (Obj.cells #[.slice (some ⟨gg, 0, none⟩) L cc, .slice (some ⟨gb, 0, none⟩) L L, .int .i64 d0, .int .i64 d1, .int .i64 d2, .int .i64 d3, .int .i64 d4, .int .i64 d5, .int .i64 (-1), .bool false] 56)
  have bt : Blk (w2.alloc (Obj.cells #[.slice (some ⟨gg, 0, none⟩) L cc, .slice (some ⟨gb, 0, none⟩) L L, .int .i64 d0, .int .i64 d1, .int .i64 d2, .int .i64 d3, .int .i64 d4, .int .i64 d5, .int .i64 (-1), .bool false] 56)) w2.heap.size 56 [.slice (some ⟨gg, 0, none⟩) L cc, .slice (some ⟨gb, 0, none⟩) L L, .int .i64 d0, .int .i64 d1, .int .i64 d2, .int .i64 d3, .int .i64 d4, .int .i64 d5, .int .i64 (-1), .bool false] := blk_new w2 56 _ _ rfl
  have hb3 := bnew H2.out.2.2.2.1 (Obj.cells #[.slice (some ⟨gg, 0, none⟩) L cc, .slice (some ⟨gb, 0, none⟩) L L, .int .i64 d0, .int .i64 d1, .int .i64 d2, .int .i64 d3, .int .i64 d4, .int .i64 d5, .int .i64 (-1), .bool false] 56)
  have hr3 := H2.out.2.2.2.2.1.below (bnew (Below.refl _ _) (Obj.cells #[.slice (some ⟨gg, 0, none⟩) L cc, .slice (some ⟨gb, 0, none⟩) L L, .int .i64 d0, .int .i64 d1, .int .i64 d2, .int .i64 d3, .int .i64 d4, .int .i64 d5, .int .i64 (-1), .bool false] 56))
  have hlt : w.heap.size + 1 + 1 + 1 < w2.heap.size := H2.out.2.2.1.lt
  generalize w2.alloc (Obj.cells #[.slice (some ⟨gg, 0, none⟩) L cc, .slice (some ⟨gb, 0, none⟩) L L, .int .i64 d0, .int .i64 d1, .int .i64 d2, .int .i64 d3, .int .i64 d4, .int .i64 d5, .int .i64 (-1), .bool false] 56) = w3 at b0 b2 b3 bt hb3 hr3 ⊢
  generalize w2.heap.size = tt at bt hlt ⊢
  have f0 : w3.cell? ⟨w.heap.size, 0, none⟩ = some (.int .i64 a) := b0.cell 0
  have f1 : w3.cell? ⟨w.heap.size, 1, none⟩ = some (.int .i64 s) := b0.cell 1
  have f2 : w3.cell? ⟨w.heap.size, 2, none⟩ = some (.int .i64 m) := b0.cell 2
  have f3 : w3.cell? ⟨w.heap.size, 3, none⟩ = some (.slice (some ⟨bq, oq, none⟩) n cap) := b0.cell 3
  have f4 : w3.cell? ⟨w.heap.size, 4, none⟩ = some (.int .i64 1) := b0.cell 4
  have f5 : w3.cell? ⟨w.heap.size, 5, none⟩ = some (.int .i64 k) := b0.cell 5
  have f6 : w3.cell? ⟨w.heap.size, 6, none⟩ = some (.int .u64 p) := b0.cell 6
  have f7 : w3.cell? ⟨w.heap.size, 7, none⟩ = some (.int .u64 g) := b0.cell 7
  have f8 : w3.cell? ⟨w.heap.size, 8, none⟩ = some (.int .i64 code) := b0.cell 8
  have z4 := b0.free 4
  have z5 := b0.free 5
  have H3 := Lib.hid (And.intro b0 (And.intro b2 (And.intro b3 (And.intro bt (And.intro hb3 (And.intro hr3 hlt))))))
  clear b0 b2 b3 bt hb3 hr3
  go_upto_region 34 with fail
  have b0 : Blk ((w3.setCell ⟨w.heap.size, 5, none⟩ (.int .i64 ((k : Int) + 1))).setCell ⟨w.heap.size, 4, none⟩ (.int .i64 2)) (w.heap.size) 62 [.int .i64 a, .int .i64 s, .int .i64 m, .slice (some ⟨bq, oq, none⟩) n cap, .int .i64 2, .int .i64 ((k : Int) + 1), .int .u64 p, .int .u64 g, .int .i64 code] := ((H3.out.1.set 5 (.int .i64 ((k : Int) + 1))).set 4 (.int .i64 2))
  have hch : Chg (fun j => j = w.heap.size) w3 ((w3.setCell ⟨w.heap.size, 5, none⟩ (.int .i64 ((k : Int) + 1))).setCell ⟨w.heap.size, 4, none⟩ (.int .i64 2)) := (((Chg.refl (fun j => j = w.heap.size) w3).setCell ⟨w.heap.size, 5, none⟩ (.int .i64 ((k : Int) + 1)) (fun _ => rfl)).setCell ⟨w.heap.size, 4, none⟩ (.int .i64 2) (fun _ => rfl))
  generalize ((w3.setCell ⟨w.heap.size, 5, none⟩ (.int .i64 ((k : Int) + 1))).setCell ⟨w.heap.size, 4, none⟩ (.int .i64 2)) = w4 at b0 hch ⊢
  have b2 := H3.out.2.1.chg hch (fun e => by omega)
  have b3 := H3.out.2.2.1.chg hch (fun e => by omega)
  have bt := H3.out.2.2.2.1.chg hch (fun e => by have := H3.out.2.2.2.2.2.2; omega)
  have hb4 := Chg.below H3.out.2.2.2.2.1 hch H3.out.2.2.2.2.1.size (fun k hk => by omega)
  have hr4 := H3.out.2.2.2.2.2.1.chg hch (fun e => by have := H2.out.2.2.2.2.2.2.1; omega) (fun e => by have := HM.out.marks.lt; omega)
  clear f0 f1 f2 f3 f4 f5 f6 f7 f8 z4 z5
  have f0 : w4.cell? ⟨w.heap.size, 0, none⟩ = some (.int .i64 a) := b0.cell 0
  have f1 : w4.cell? ⟨w.heap.size, 1, none⟩ = some (.int .i64 s) := b0.cell 1
  have f2 : w4.cell? ⟨w.heap.size, 2, none⟩ = some (.int .i64 m) := b0.cell 2
  have f3 : w4.cell? ⟨w.heap.size, 3, none⟩ = some (.slice (some ⟨bq, oq, none⟩) n cap) := b0.cell 3
  have f4 : w4.cell? ⟨w.heap.size, 4, none⟩ = some (.int .i64 2) := b0.cell 4
  have f5 : w4.cell? ⟨w.heap.size, 5, none⟩ = some (.int .i64 ((k : Int) + 1)) := b0.cell 5
  have f6 : w4.cell? ⟨w.heap.size, 6, none⟩ = some (.int .u64 p) := b0.cell 6
  have f7 : w4.cell? ⟨w.heap.size, 7, none⟩ = some (.int .u64 g) := b0.cell 7
  have f8 : w4.cell? ⟨w.heap.size, 8, none⟩ = some (.int .i64 code) := b0.cell 8
  have t0 : w4.cell? ⟨tt, 0, none⟩ = some (.slice (some ⟨gg, 0, none⟩) L cc) := bt.cell 0
  have t1 : w4.cell? ⟨tt, 1, none⟩ = some (.slice (some ⟨gb, 0, none⟩) L L) := bt.cell 1
  have t2 : w4.cell? ⟨tt, 2, none⟩ = some (.int .i64 d0) := bt.cell 2
  have t3 : w4.cell? ⟨tt, 3, none⟩ = some (.int .i64 d1) := bt.cell 3
  have t4 : w4.cell? ⟨tt, 4, none⟩ = some (.int .i64 d2) := bt.cell 4
  have t5 : w4.cell? ⟨tt, 5, none⟩ = some (.int .i64 d3) := bt.cell 5
  have t6 : w4.cell? ⟨tt, 6, none⟩ = some (.int .i64 d4) := bt.cell 6
  have t7 : w4.cell? ⟨tt, 7, none⟩ = some (.int .i64 d5) := bt.cell 7
  have t8 : w4.cell? ⟨tt, 8, none⟩ = some (.int .i64 (-1)) := bt.cell 8
  have t9 : w4.cell? ⟨tt, 9, none⟩ = some (.bool false) := bt.cell 9
  have g0 : w4.cell? ⟨w.heap.size + 1 + 1, 0, none⟩ = some (.int .i64 0) := b2.cell 0
  have y0 := b2.free 0
  have g1 : w4.cell? ⟨w.heap.size + 1 + 1, 1, none⟩ = some (.int .i64 0) := b2.cell 1
  have y1 := b2.free 1
  have g2 : w4.cell? ⟨w.heap.size + 1 + 1, 2, none⟩ = some (.int .i64 0) := b2.cell 2
  have y2 := b2.free 2
  have g3 : w4.cell? ⟨w.heap.size + 1 + 1, 3, none⟩ = some (.slice none 0 0) := b2.cell 3
  have y3 := b2.free 3
  have g4 : w4.cell? ⟨w.heap.size + 1 + 1, 4, none⟩ = some (.int .i64 0) := b2.cell 4
  have y4 := b2.free 4
  have g5 : w4.cell? ⟨w.heap.size + 1 + 1, 5, none⟩ = some (.int .i64 0) := b2.cell 5
  have y5 := b2.free 5
  have g6 : w4.cell? ⟨w.heap.size + 1 + 1, 6, none⟩ = some (.int .u64 0) := b2.cell 6
  have y6 := b2.free 6
  have g7 : w4.cell? ⟨w.heap.size + 1 + 1, 7, none⟩ = some (.int .u64 0) := b2.cell 7
  have y7 := b2.free 7
  have g8 : w4.cell? ⟨w.heap.size + 1 + 1, 8, none⟩ = some (.int .i64 0) := b2.cell 8
  have y8 := b2.free 8
  have l0 : w4.cell? ⟨w.heap.size + 1 + 1 + 1, 0, none⟩ = some (.slice none 0 0) := b3.cell 0
  have x0 := b3.free 0
  have l1 : w4.cell? ⟨w.heap.size + 1 + 1 + 1, 1, none⟩ = some (.slice none 0 0) := b3.cell 1
  have x1 := b3.free 1
  have l2 : w4.cell? ⟨w.heap.size + 1 + 1 + 1, 2, none⟩ = some (.int .i64 0) := b3.cell 2
  have x2 := b3.free 2
  have l3 : w4.cell? ⟨w.heap.size + 1 + 1 + 1, 3, none⟩ = some (.int .i64 0) := b3.cell 3
  have x3 := b3.free 3
  have l4 : w4.cell? ⟨w.heap.size + 1 + 1 + 1, 4, none⟩ = some (.int .i64 0) := b3.cell 4
  have x4 := b3.free 4
  have l5 : w4.cell? ⟨w.heap.size + 1 + 1 + 1, 5, none⟩ = some (.int .i64 0) := b3.cell 5
  have x5 := b3.free 5
  have l6 : w4.cell? ⟨w.heap.size + 1 + 1 + 1, 6, none⟩ = some (.int .i64 0) := b3.cell 6
  have x6 := b3.free 6
  have l7 : w4.cell? ⟨w.heap.size + 1 + 1 + 1, 7, none⟩ = some (.int .i64 0) := b3.cell 7
  have x7 := b3.free 7
  have l8 : w4.cell? ⟨w.heap.size + 1 + 1 + 1, 8, none⟩ = some (.int .i64 0) := b3.cell 8
  have x8 := b3.free 8
  have l9 : w4.cell? ⟨w.heap.size + 1 + 1 + 1, 9, none⟩ = some (.bool false) := b3.cell 9
  have x9 := b3.free 9
  have H4 := Lib.hid (And.intro b0 (And.intro b2 (And.intro b3 (And.intro bt (And.intro hb4 hr4)))))
  have hn1 : ¬ tt = w.heap.size + 1 + 1 := by omega
  have hn2 : ¬ tt = w.heap.size + 1 + 1 + 1 := by omega
  clear b0 b2 b3 bt hb4 hr4 hch
  go_region
  all_goals go_wp2
  clear f0 f1 f2 f3 f4 f5 f6 f7 f8 t0 t1 t2 t3 t4 t5 t6 t7 t8 t9 g0 y0 g1 y1 g2 y2 g3 y3 g4 y4 g5 y5 g6 y6 g7 y7 g8 y8 l0 x0 l1 x1 l2 x2 l3 x3 l4 x4 l5 x5 l6 x6 l7 x7 l8 x8 l9 x9 hn1 hn2
  obtain ⟨e2, hc2⟩ := set9 H4.out.2.1 (.int .i64 a) (.int .i64 s) (.int .i64 m) (.slice (some ⟨bq, oq, none⟩) n cap) (.int .i64 2) (.int .i64 ((k : Int) + 1)) (.int .u64 p) (.int .u64 g) (.int .i64 code)
  have e3 := H4.out.2.2.1.chg hc2 (fun e => by omega)
  obtain ⟨e3, hc3⟩ := set10 e3 (.slice (some ⟨gg, 0, none⟩) L cc) (.slice (some ⟨gb, 0, none⟩) L L) (.int .i64 d0) (.int .i64 d1) (.int .i64 d2) (.int .i64 d3) (.int .i64 d4) (.int .i64 d5) (.int .i64 (-1)) (.bool false)
  have e2 := e2.chg hc3 (fun e => by omega)
  have hb5 := Chg.below (Chg.below H4.out.2.2.2.2.1 hc2 H4.out.2.2.2.2.1.size (fun k hk => by omega)) hc3 (by have := hc2.size; have := H4.out.2.2.2.2.1.size; omega) (fun k hk => by omega)
  have hgl := HM.out.marks.lt
  have hr5 := (H4.out.2.2.2.2.2.chg hc2 (fun e => by have := H2.out.2.2.2.2.2.2.2.1; omega) (fun e => by omega)).chg hc3 (fun e => by have := H2.out.2.2.2.2.2.2.2.2; omega) (fun e => by omega)
  have e2 := e2.drew
  have e3 := e3.drew
  have hb5 := hb5.drew
  have hr5 := hr5.drew
  generalize (((((((((((((((((((w4.setCell ⟨w.heap.size + 1 + 1, 0, none⟩ (.int .i64 a)).setCell ⟨w.heap.size + 1 + 1, 1, none⟩ (.int .i64 s)).setCell ⟨w.heap.size + 1 + 1, 2, none⟩ (.int .i64 m)).setCell ⟨w.heap.size + 1 + 1, 3, none⟩ (.slice (some ⟨bq, oq, none⟩) n cap)).setCell ⟨w.heap.size + 1 + 1, 4, none⟩ (.int .i64 2)).setCell ⟨w.heap.size + 1 + 1, 5, none⟩ (.int .i64 ((k : Int) + 1))).setCell ⟨w.heap.size + 1 + 1, 6, none⟩ (.int .u64 p)).setCell ⟨w.heap.size + 1 + 1, 7, none⟩ (.int .u64 g)).setCell ⟨w.heap.size + 1 + 1, 8, none⟩ (.int .i64 code)).setCell ⟨w.heap.size + 1 + 1 + 1, 0, none⟩ (.slice (some ⟨gg, 0, none⟩) L cc)).setCell ⟨w.heap.size + 1 + 1 + 1, 1, none⟩ (.slice (some ⟨gb, 0, none⟩) L L)).setCell ⟨w.heap.size + 1 + 1 + 1, 2, none⟩ (.int .i64 d0)).setCell ⟨w.heap.size + 1 + 1 + 1, 3, none⟩ (.int .i64 d1)).setCell ⟨w.heap.size + 1 + 1 + 1, 4, none⟩ (.int .i64 d2)).setCell ⟨w.heap.size + 1 + 1 + 1, 5, none⟩ (.int .i64 d3)).setCell ⟨w.heap.size + 1 + 1 + 1, 6, none⟩ (.int .i64 d4)).setCell ⟨w.heap.size + 1 + 1 + 1, 7, none⟩ (.int .i64 d5)).setCell ⟨w.heap.size + 1 + 1 + 1, 8, none⟩ (.int .i64 (-1))).setCell ⟨w.heap.size + 1 + 1 + 1, 9, none⟩ (.bool false)).drew = w5 at e2 e3 hb5 hr5 ⊢
  have g0 : w5.cell? ⟨w.heap.size + 1 + 1, 0, none⟩ = some (.int .i64 a) := e2.cell 0
  have g1 : w5.cell? ⟨w.heap.size + 1 + 1, 1, none⟩ = some (.int .i64 s) := e2.cell 1
  have g2 : w5.cell? ⟨w.heap.size + 1 + 1, 2, none⟩ = some (.int .i64 m) := e2.cell 2
  have g3 : w5.cell? ⟨w.heap.size + 1 + 1, 3, none⟩ = some (.slice (some ⟨bq, oq, none⟩) n cap) := e2.cell 3
  have g4 : w5.cell? ⟨w.heap.size + 1 + 1, 4, none⟩ = some (.int .i64 2) := e2.cell 4
  have g5 : w5.cell? ⟨w.heap.size + 1 + 1, 5, none⟩ = some (.int .i64 ((k : Int) + 1)) := e2.cell 5
  have g6 : w5.cell? ⟨w.heap.size + 1 + 1, 6, none⟩ = some (.int .u64 p) := e2.cell 6
  have g7 : w5.cell? ⟨w.heap.size + 1 + 1, 7, none⟩ = some (.int .u64 g) := e2.cell 7
  have g8 : w5.cell? ⟨w.heap.size + 1 + 1, 8, none⟩ = some (.int .i64 code) := e2.cell 8
  have l0 : w5.cell? ⟨w.heap.size + 1 + 1 + 1, 0, none⟩ = some (.slice (some ⟨gg, 0, none⟩) L cc) := e3.cell 0
  have l1 : w5.cell? ⟨w.heap.size + 1 + 1 + 1, 1, none⟩ = some (.slice (some ⟨gb, 0, none⟩) L L) := e3.cell 1
  have l2 : w5.cell? ⟨w.heap.size + 1 + 1 + 1, 2, none⟩ = some (.int .i64 d0) := e3.cell 2
  have l3 : w5.cell? ⟨w.heap.size + 1 + 1 + 1, 3, none⟩ = some (.int .i64 d1) := e3.cell 3
  have l4 : w5.cell? ⟨w.heap.size + 1 + 1 + 1, 4, none⟩ = some (.int .i64 d2) := e3.cell 4
  have l5 : w5.cell? ⟨w.heap.size + 1 + 1 + 1, 5, none⟩ = some (.int .i64 d3) := e3.cell 5
  have l6 : w5.cell? ⟨w.heap.size + 1 + 1 + 1, 6, none⟩ = some (.int .i64 d4) := e3.cell 6
  have l7 : w5.cell? ⟨w.heap.size + 1 + 1 + 1, 7, none⟩ = some (.int .i64 d5) := e3.cell 7
  have l8 : w5.cell? ⟨w.heap.size + 1 + 1 + 1, 8, none⟩ = some (.int .i64 (-1)) := e3.cell 8
  have l9 : w5.cell? ⟨w.heap.size + 1 + 1 + 1, 9, none⟩ = some (.bool false) := e3.cell 9
  refine bodyPost_ret (v := .tuple #[.agg #[.int .i64 a, .int .i64 s, .int .i64 m, .slice (some ⟨bq, oq, none⟩) n cap, .int .i64 2, .int .i64 ((k : Int) + 1), .int .u64 p, .int .u64 g, .int .i64 code], .agg #[.slice (some ⟨gg, 0, none⟩) L cc, .slice (some ⟨gb, 0, none⟩) L L, .int .i64 d0, .int .i64 d1, .int .i64 d2, .int .i64 d3, .int .i64 d4, .int .i64 d5, .int .i64 (-1), .bool false]]) (by simp [results, Try.results22, go_sem, g0, g1, g2, g3, g4, g5, g6, g7, g8, l0, l1, l2, l3, l4, l5, l6, l7, l8, l9]) rfl ⟨gg, cc, d0, d1, d2, d3, d4, d5, by (try rw [List.length_set]); rw [HLL.out], hr5, .inr H2.out.2.2.2.2.2.1, hb5⟩

end Go.Proofs.Ytobdpieijgiaoaa
