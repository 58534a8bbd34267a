/- contract of reader.entry, and of its closure. -/
import Derived.Test.YtgfingdopelinaaScR
import Derived.Deep.CutBlock
import Derived.Deep.DeepCutAuto
namespace Go.Proofs.Ytgfingdopelinaa
set_option linter.unusedSimpArgs false
set_option linter.unusedVariables false
open Go.RowKit Go.Deep

theorem RdAt.below {w w' : World} {rb : Nat} {r : List Nat × Bool} (h : RdAt w rb r) (hb : Below w.heap.size w w') : RdAt w' rb r :=
  h.chg (chg_of_below (fun _ => False) hb) (fun h => h) (fun _ _ h => h.elim)
theorem RdAt.blk_lt {w : World} {rb : Nat} {r : List Nat × Bool} (h : RdAt w rb r) : rb < w.heap.size := by
  obtain ⟨_, _, _, hb, _⟩ := h
  exact hb.lt
theorem Chg.free {S : Nat → Prop} {w w' : World} (h : Chg S w w') {b o : Nat} (hb : b < w.heap.size) (hn : ¬ S b) : w'.frozen? ⟨b, o, none⟩ = w.frozen? ⟨b, o, none⟩ := World.frozen?_of_block (h.block b hb hn)
/-- what a closure of the reader's sees: its box, and the cells of its result. -/
def HS (bx rb s0 : Nat) (W : World) : Prop := W.cell? ⟨bx, 0, none⟩ = some (.pointer (some ⟨rb, 0, none⟩)) ∧ W.cell? ⟨s0, 0, none⟩ = some (.int .i64 0) ∧ W.cell? ⟨s0, 1, none⟩ = some (.int .u64 0) ∧ W.frozen? ⟨s0, 0, none⟩ = false ∧ W.frozen? ⟨s0, 1, none⟩ = false
theorem box_keep {w w' : World} {bx rb s0 : Nat} (hne : bx ≠ rb) (hne2 : s0 ≠ rb) (h : HS bx rb s0 w) (hc : Chg (fun j => j = rb) w w') : HS bx rb s0 w' :=
  ⟨hc.cell h.1 hne, hc.cell h.2.1 hne2, hc.cell h.2.2.1 hne2, (hc.free (World.block_lt_of_cell? w _ h.2.1) hne2).trans h.2.2.2.1, (hc.free (World.block_lt_of_cell? w _ h.2.1) hne2).trans h.2.2.2.2⟩
theorem keep2 {w : World} {bx s0 : Nat} {v u1 u2 : Value} (hne : bx ≠ s0) (h : w.cell? ⟨bx, 0, none⟩ = some v) : ((w.setCell ⟨s0, 0, none⟩ u1).setCell ⟨s0, 1, none⟩ u2).cell? ⟨bx, 0, none⟩ = some v :=
  (((Chg.refl (fun j => j = s0) w).setCell _ _ (fun _ => rfl)).setCell _ _ (fun _ => rfl)).cell h hne
def rhandle (r : List Nat × Bool) : (Nat × Nat) × (List Nat × Bool) := (((rsmall 7 r).1, (rnum (rsmall 7 r).2).1), (rnum (rsmall 7 r).2).2)
set_option maxRecDepth 100000 in
set_option maxHeartbeats 1000000 in
theorem rhandle_calls (rb bx : Nat) (r : List Nat × Bool) (w : World) (h : RdAt w rb r) (hx : Blk w bx 65 [.pointer (some ⟨rb, 0, none⟩)]) (hne : bx ≠ rb) :
    Calls Try.prog 37 #[.pointer (some ⟨bx, 0, none⟩)] w fun e w' => e = .returned (.agg #[.int .i64 ((rhandle r).1.1 : Nat), .int .u64 ((rhandle r).1.2 : Nat)]) ∧ RdAt w' rb (rhandle r).2 ∧ Chg (fun j => j = rb) w w' := by
  have c0 : w.cell? ⟨bx, 0, none⟩ = some (.pointer (some ⟨rb, 0, none⟩)) := hx.cell 0
  have HX := Lib.hid (And.intro hx hne)
  have HR := Lib.hid h
  clear hx hne h
  go_enter Try.func37, Try.ntmps37
  go_wp2_with fail
  have HW : Hid (Blk (w.alloc (.cells #[.int .i64 0, .int .u64 0] 30)) w.heap.size 30 [.int .i64 0, .int .u64 0]) := Lib.hid (Blk.new w _ [.int .i64 0, .int .u64 0])
  have HB0 : Hid (Below w.heap.size w (w.alloc (.cells #[.int .i64 0, .int .u64 0] 30))) := Lib.hid (bnew (Below.refl _ _) _)
  have HR0 : Hid (RdAt (w.alloc (.cells #[.int .i64 0, .int .u64 0] 30)).drew rb r) := Lib.hid (HR.out.below (HB0.out.trans (Below.refl _ _).drew))
  have HC0 : Hid ((w.alloc (.cells #[.int .i64 0, .int .u64 0] 30)).drew.cell? ⟨bx, 0, none⟩ = some (.pointer (some ⟨rb, 0, none⟩))) := Lib.hid (kalloc _ c0)
  have hne : w.heap.size ≠ rb := by have := HR.out.blk_lt; omega
  have HNE := Lib.hid hne
  clear c0 hne
  generalize w.alloc (.cells #[.int .i64 0, .int .u64 0] 30) = w0 at HW HB0 HR0 HC0 ⊢
  generalize hs0 : w.heap.size = s0 at HW HNE HB0 ⊢
  have HS0 := Lib.hid hs0
  clear hs0
  have HC1 : Hid (HS bx rb s0 w0.drew) := Lib.hid ⟨HC0.out, HW.out.cell 0, HW.out.cell 1, HW.out.free 0, HW.out.free 1⟩
  have hbs : bx ≠ s0 := fun e => by have := HX.out.1.lt; have := HS0.out; omega
  have HBS := Lib.hid hbs
  clear hbs
  go_region_held3 (fun W => W.cell? ⟨bx, 0, none⟩ = some (.pointer (some ⟨rb, 0, none⟩))) (first | exact HC0.out | exact Chg.cell (by assumption) (by assumption) HX.out.2 | exact keep2 HBS.out (by assumption) | assumption) (first | (go_at_call 28; refine (rsmall_calls rb 7 r _ HR0.out (by decide)).mono ?_; rintro e w1 ⟨rfl, hr1, hc1⟩) | (go_at_call 29; refine (rnumber_calls rb _ _ (by assumption)).mono ?_; rintro e w2 ⟨rfl, hr2, hc2⟩; have hc12 := Chg.trans (by assumption) hc2 (fun _ _ h => h); have hk2 := box_keep HX.out.2 HNE.out HC1.out hc12; obtain ⟨_, d0, d1, d2, d3⟩ := hk2))
  rename_i hh
  have h0 : HS0.out = HS0.out := rfl
  have hbl := HW.out.drew.chg hc12 HNE.out
  have hrf : RdAt (((w2.setCell ⟨s0, 0, none⟩ (.int .i64 ((rsmall 7 r).1 : Nat))).setCell ⟨s0, 1, none⟩ (.int .u64 ((rnum (rsmall 7 r).2).1 : Nat)))) rb (rnum (rsmall 7 r).2).2 :=
    hr2.chg (((Chg.refl (fun j => j = s0) w2).setCell _ _ (fun _ => rfl)).setCell _ _ (fun _ => rfl)) HNE.out.symm (fun k _ e o x => by
      subst e
      rw [hbl.cell]
      match o with
      | 0 => simp
      | 1 => simp
      | o + 2 => simp)
  have hcf : Chg (fun j => j = rb) w ((w2.setCell ⟨s0, 0, none⟩ (.int .i64 ((rsmall 7 r).1 : Nat))).setCell ⟨s0, 1, none⟩ (.int .u64 ((rnum (rsmall 7 r).2).1 : Nat))) := by
    have hw0 : Chg (fun j => j = rb) w w0.drew := (chg_of_below _ (by rw [HS0.out]; exact HB0.out)).drew
    exact ((hw0.trans hc12 (fun _ _ h => h)).setCell _ _ (fun h => by have := HS0.out; simp at h; omega)).setCell _ _ (fun h => by have := HS0.out; simp at h; omega)
  have HF := Lib.hid (And.intro hrf hcf)
  have hcl := hbl
  have e0 : ((w2.setCell ⟨s0, 0, none⟩ (.int .i64 ((rsmall 7 r).1 : Nat))).setCell ⟨s0, 1, none⟩ (.int .u64 ((rnum (rsmall 7 r).2).1 : Nat))).cell? ⟨s0, 0, none⟩ = some (.int .i64 ((rsmall 7 r).1 : Nat)) := ((hbl.set 0 _).set 1 _).cell 0
  have e1 : ((w2.setCell ⟨s0, 0, none⟩ (.int .i64 ((rsmall 7 r).1 : Nat))).setCell ⟨s0, 1, none⟩ (.int .u64 ((rnum (rsmall 7 r).2).1 : Nat))).cell? ⟨s0, 1, none⟩ = some (.int .u64 ((rnum (rsmall 7 r).2).1 : Nat)) := ((hbl.set 0 _).set 1 _).cell 1
  clear h0 hcl hbl hrf hcf hh d0 d1 d2 d3 hc12 hr2 hc2 hr1 hc1
  generalize (w2.setCell ⟨s0, 0, none⟩ (.int .i64 ((rsmall 7 r).1 : Nat))).setCell ⟨s0, 1, none⟩ (.int .u64 ((rnum (rsmall 7 r).2).1 : Nat)) = w3 at HF e0 e1 ⊢
  go_wp2
  refine bodyPost_ret (v := .agg #[.int .i64 ((rsmall 7 r).1 : Nat), .int .u64 ((rnum (rsmall 7 r).2).1 : Nat)]) (by simp [results, Try.results37, go_sem, e0, e1]) rfl ⟨rfl, HF.out.1, HF.out.2⟩
end Go.Proofs.Ytgfingdopelinaa
