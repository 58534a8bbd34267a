/- contracts of package mem over a memory whose blocks are known whole. -/
import Derived.Test.YtjmooohhndjmiaaProg
import Derived.Test.YtjmooohhndjmiaaOpen
import Derived.WalkKit
import Derived.Deep.QuietTactic
import Derived.BigQuiet
import Derived.KernelRfl
import Derived.Deep.RegionWith
import Derived.Deep.RegionHeld3
import Derived.WalkLawsBesides
import Derived.Lib.Hide
import Derived.Laws.MakeOwn
namespace Go.Proofs.Ytjmooohhndjmiaa
open Go.RowKit

/-- Of the blocks that were there only those of which 'S' says so may have changed. -/
structure Chg (S : Nat → Prop) (w w' : World) : Prop where
  os : w'.os = w.os
  tape : w'.tape = w.tape
  output : w'.output = w.output
  size : w.heap.size ≤ w'.heap.size
  block : ∀ k, k < w.heap.size → ¬ S k → w'.heap[k]? = w.heap[k]?
theorem Chg.refl (S : Nat → Prop) (w : World) : Chg S w w := ⟨rfl, rfl, rfl, Nat.le_refl _, fun _ _ _ => rfl⟩
theorem Chg.trans {S T : Nat → Prop} {a b c : World} (h : Chg S a b) (k : Chg T b c) (hs : ∀ j, j < a.heap.size → T j → S j) : Chg S a c :=
  ⟨k.os.trans h.os, k.tape.trans h.tape, k.output.trans h.output, Nat.le_trans h.size k.size, fun i hi hn => (k.block i (Nat.lt_of_lt_of_le hi h.size) (fun t => hn (hs i hi t))).trans (h.block i hi hn)⟩
theorem Chg.mono {S T : Nat → Prop} {a b : World} (h : Chg S a b) (hs : ∀ j, j < a.heap.size → S j → T j) : Chg T a b :=
  ⟨h.os, h.tape, h.output, h.size, fun i hi hn => h.block i hi (fun t => hn (hs i hi t))⟩
theorem Chg.alloc {S : Nat → Prop} {a b : World} (h : Chg S a b) (o : Obj) : Chg S a (b.alloc o) :=
  ⟨h.os, h.tape, h.output, by have := h.size; simp; omega, fun i hi hn => by
    have := h.size
    rw [Below.heap_alloc _ _ _ (by omega)]; exact h.block i hi hn⟩
theorem Chg.setCell {S : Nat → Prop} {a b : World} (h : Chg S a b) (p : Addr) (u : Value) (hp : p.block < a.heap.size → S p.block) : Chg S a (b.setCell p u) :=
  ⟨h.os, h.tape, h.output, by have := h.size; simp; omega, fun i hi hn => by
    rw [Below.heap_setCell _ _ _ _ (fun e => by subst e; exact hn (hp hi))]; exact h.block i hi hn⟩
theorem Chg.drew {S : Nat → Prop} {a b : World} (h : Chg S a b) : Chg S a b.drew := ⟨h.os, h.tape, h.output, h.size, h.block⟩
theorem Chg.drewN {S : Nat → Prop} {a b : World} (h : Chg S a b) (n : Nat) : Chg S a (b.drewN n) := ⟨h.os, h.tape, h.output, h.size, h.block⟩
theorem Chg.below {S : Nat → Prop} {B : Nat} {w a b : World} (hb : Below B w a) (h : Chg S a b) (hB : B ≤ a.heap.size) (hs : ∀ k, S k → B ≤ k) : Below B w b :=
  hb.trans ⟨h.os, h.tape, h.output, h.size, fun k hk => h.block k (by omega) (fun t => by have := hs k t; omega)⟩
theorem chg_of_below {w w' : World} (S : Nat → Prop) (h : Below w.heap.size w w') : Chg S w w' := ⟨h.os, h.tape, h.output, h.size, fun k hk _ => h.block k hk⟩
theorem below_of_chg {w w' : World} (h : Chg (fun _ => False) w w') : Below w.heap.size w w' := ⟨h.os, h.tape, h.output, h.size, fun k hk => h.block k hk (fun t => t)⟩

/-- A block of cells, known whole. -/
def Blk (w : World) (g : Nat) (t : TypeId) (cs : List Value) : Prop := w.heap[g]? = some (.cells cs.toArray t (0, 0))
theorem Blk.lt {w : World} {g : Nat} {t : TypeId} {cs : List Value} (h : Blk w g t cs) : g < w.heap.size := by
  unfold Blk at h
  rcases Nat.lt_or_ge g w.heap.size with h' | h'
  · exact h'
  · simp [Array.getElem?_eq_none h'] at h
theorem Blk.cell {w : World} {g : Nat} {t : TypeId} {cs : List Value} (h : Blk w g t cs) (i : Nat) : w.cell? ⟨g, i, none⟩ = cs[i]? := by
  unfold Blk at h
  simp [World.cell?, h]
theorem Blk.free {w : World} {g : Nat} {t : TypeId} {cs : List Value} (h : Blk w g t cs) (i : Nat) : w.frozen? ⟨g, i, none⟩ = false := by
  unfold Blk at h
  simp [World.frozen?, h]
theorem Blk.chg {S : Nat → Prop} {w w' : World} {g : Nat} {t : TypeId} {cs : List Value} (h : Blk w g t cs) (hc : Chg S w w') (hs : ¬ S g) : Blk w' g t cs := (hc.block g h.lt hs).trans h
theorem Blk.drew {w : World} {g : Nat} {t : TypeId} {cs : List Value} (h : Blk w g t cs) : Blk w.drew g t cs := h
theorem Blk.drewN {w : World} {g : Nat} {t : TypeId} {cs : List Value} (h : Blk w g t cs) (n : Nat) : Blk (w.drewN n) g t cs := h
theorem Blk.alloc {w : World} {g : Nat} {t : TypeId} {cs : List Value} (h : Blk w g t cs) (o : Obj) : Blk (w.alloc o) g t cs := (Below.heap_alloc w o g h.lt).trans h
theorem Blk.new (w : World) (t : TypeId) (cs : List Value) : Blk (w.alloc (.cells cs.toArray t)) w.heap.size t cs := by
  show (w.heap.push _)[w.heap.size]? = _
  simp
theorem Blk.set {w : World} {g : Nat} {t : TypeId} {cs : List Value} (h : Blk w g t cs) (i : Nat) (u : Value) : Blk (w.setCell ⟨g, i, none⟩ u) g t (cs.set i u) := by
  unfold Blk at *
  simp [World.setCell, Array.getElem?_modify, h]
theorem Blk.other {w : World} {g : Nat} {t : TypeId} {cs : List Value} (h : Blk w g t cs) (p : Addr) (u : Value) (hp : g ≠ p.block) : Blk (w.setCell p u) g t cs := (Below.heap_setCell w p u g hp).trans h

/-- the words of a memory as values. -/
def wordVals (ws : List Nat) : List Value := ws.map fun x => Value.int .u64 (x : Nat)
/-- A memory that nobody barred: its struct at block b, its words at bw, its marks at bb. -/
structure MemAt (w : World) (b bw bb : Nat) (ws : List Nat) : Prop where
  top : ∃ c0 c1 c2 c3 c4 c5 : Int, Blk w b 73 [.slice (some ⟨bw, 0, none⟩) ws.length ws.length, .slice (some ⟨bb, 0, none⟩) ws.length ws.length, .int .i64 c0, .int .i64 c1, .int .i64 c2, .int .i64 c3, .int .i64 c4, .int .i64 c5, .int .i64 (-1), .bool false]
  words : Blk w bw 40 (wordVals ws)
  marks : Blk w bb 4 (List.replicate ws.length (.bool false))
  ne1 : b ≠ bw
  ne2 : b ≠ bb
  ne3 : bw ≠ bb
  pos : 0 < ws.length
  most : ws.length ≤ 65536
  fit : ∀ x ∈ ws, x < 18446744073709551616
theorem MemAt.chg {S : Nat → Prop} {w w' : World} {b bw bb : Nat} {ws : List Nat} (h : MemAt w b bw bb ws) (hc : Chg S w w') (h1 : ¬ S b) (h2 : ¬ S bw) (h3 : ¬ S bb) : MemAt w' b bw bb ws :=
  ⟨by obtain ⟨c0, c1, c2, c3, c4, c5, hb⟩ := h.top; exact ⟨c0, c1, c2, c3, c4, c5, hb.chg hc h1⟩, h.words.chg hc h2, h.marks.chg hc h3, h.ne1, h.ne2, h.ne3, h.pos, h.most, h.fit⟩
theorem MemAt.below {w w' : World} {b bw bb : Nat} {ws : List Nat} (h : MemAt w b bw bb ws) (hb : Below w.heap.size w w') : MemAt w' b bw bb ws :=
  h.chg (chg_of_below (fun _ => False) hb) (fun h => h) (fun h => h) (fun h => h)

theorem MemAt.drew {w : World} {b bw bb : Nat} {ws : List Nat} (h : MemAt w b bw bb ws) : MemAt w.drew b bw bb ws := ⟨h.top, h.words, h.marks, h.ne1, h.ne2, h.ne3, h.pos, h.most, h.fit⟩
theorem none_calls (b bw bb : Nat) (ws : List Nat) (w : World) (hm : MemAt w b bw bb ws) :
    Calls Try.prog 43 #[.pointer (some ⟨b, 0, none⟩)] w fun e w' => e = .returned (.bool false) ∧ w = w' := by
  obtain ⟨c0, c1, c2, c3, c4, c5, hb⟩ := hm.top
  have h0 : w.cell? ⟨b, 0, none⟩ = _ := hb.cell 0
  simp only [List.getElem?_cons_zero] at h0
  have hpos := hm.pos
  have hne : ((ws.length : Int) == 0) = false := by rw [beq_eq_false_iff_ne]; omega
  have HM := Lib.hid hm
  clear hm hb hpos
  generalize ws.length = n at *
  go_enter Try.func43, Try.ntmps43
  go_wp2
  go_ret
  exact ⟨rfl, rfl⟩
theorem len_calls (b bw bb : Nat) (ws : List Nat) (w : World) (hm : MemAt w b bw bb ws) :
    Calls Try.prog 25 #[.pointer (some ⟨b, 0, none⟩)] w fun e w' => e = .returned (.int .i64 ws.length) ∧ w = w' := by
  obtain ⟨c0, c1, c2, c3, c4, c5, hb⟩ := hm.top
  have h0 : w.cell? ⟨b, 0, none⟩ = _ := hb.cell 0
  simp only [List.getElem?_cons_zero] at h0
  have HM := Lib.hid hm
  clear hm hb
  generalize ws.length = n at *
  go_enter Try.func25, Try.ntmps25
  go_wp2
  go_ret
  exact ⟨rfl, rfl⟩
theorem barred_calls (b bw bb : Nat) (ws : List Nat) (a : Nat) (w : World) (hm : MemAt w b bw bb ws) (ha : a < ws.length) :
    Calls Try.prog 52 #[.pointer (some ⟨b, 0, none⟩), .int .i64 a] w fun e w' => e = .returned (.bool false) ∧ w = w' := by
  obtain ⟨c0, c1, c2, c3, c4, c5, hb⟩ := hm.top
  have h1 : w.cell? ⟨b, 1, none⟩ = _ := hb.cell 1
  simp only [List.getElem?_cons_succ, List.getElem?_cons_zero] at h1
  have h2 : w.cell? ⟨bb, a, none⟩ = some (.bool false) := by rw [hm.marks.cell a, List.getElem?_replicate, if_pos ha]
  have hmost := hm.most
  have hlen := len_calls b bw bb ws w hm
  clear hm hb
  generalize ws.length = n at *
  have HLen := Lib.hid hlen; clear hlen
  have hal : (a : Int) < (n : Int) := by omega
  have ha0 : (0 : Int) ≤ (a : Int) := by omega
  have hnn : decide (n ≤ a) = false := by simp; omega
  go_enter Try.func52, Try.ntmps52
  go_wp2_with (first | (go_at_call 25; refine HLen.out.mono ?_; rintro e w' ⟨rfl, rfl⟩))
  go_ret
  exact ⟨rfl, rfl⟩

theorem mem_use_pre (b bw bb : Nat) (ws : List Nat) (w : World) (hm : MemAt w b bw bb ws) (k : Nat) (hk : k < 6) (u : Int) :
    MemAt (w.setCell ⟨b, 2 + k, none⟩ (.int .i64 u)) b bw bb ws := by
  obtain ⟨c0, c1, c2, c3, c4, c5, hb⟩ := hm.top
  refine ⟨?_, hm.words.other _ _ hm.ne1.symm, hm.marks.other _ _ hm.ne2.symm, hm.ne1, hm.ne2, hm.ne3, hm.pos, hm.most, hm.fit⟩
  have hs := hb.set (2 + k) (.int .i64 u)
  match k, hk with
  | 0, _ => exact ⟨_, _, _, _, _, _, hs⟩
  | 1, _ => exact ⟨_, _, _, _, _, _, hs⟩
  | 2, _ => exact ⟨_, _, _, _, _, _, hs⟩
  | 3, _ => exact ⟨_, _, _, _, _, _, hs⟩
  | 4, _ => exact ⟨_, _, _, _, _, _, hs⟩
  | 5, _ => exact ⟨_, _, _, _, _, _, hs⟩

/-- A step of a kind at a word that may be used: what the closure does to it. -/
theorem useL_calls (b bw bb : Nat) (ws : List Nat) (a : Nat) (q0 : Addr) (w : World) (R : World → Prop) (hm : MemAt w b bw bb ws) (ha : a < ws.length)
    (hf : ∀ w1, MemAt w1 b bw bb ws → Chg (fun k => k = b) w w1 → Calls Try.prog 45 #[.pointer (some ⟨bw, a, none⟩), .pointer (some q0)] w1 fun e w' => e = .returned (.tuple #[]) ∧ R w') :
    Calls Try.prog 29 #[.pointer (some ⟨b, 0, none⟩), .int .i64 0, .int .i64 a, .func (.func 45) #[] #[.pointer (some q0)]] w fun e w' => e = .returned (.tuple #[]) ∧ R w' := by
  obtain ⟨c0, c1, c2, c3, c4, c5, hb⟩ := hm.top
  have h2 : w.cell? ⟨b, 2, none⟩ = _ := hb.cell 2
  have z2 := hb.free 2
  simp only [List.getElem?_cons_succ, List.getElem?_cons_zero] at h2
  have hn := none_calls b bw bb ws w hm
  have HN := Lib.hid hn; clear hn
  have HM := Lib.hid hm
  have HF := Lib.hid hf
  clear hb hm hf
  go_enter Try.func29, Try.ntmps29
  go_wp2_with fail
  refine HN.out.mono ?_; rintro e w' ⟨rfl, rfl⟩
  go_wp2_with fail
  go_region
  obtain ⟨w1, hw1⟩ : ∃ w1, w1 = (w.setCell ⟨b, 2, none⟩ (.int .i64 (wrap64 (c0 + 1)))).drew := ⟨_, rfl⟩
  have hm1 : MemAt w1 b bw bb ws := by rw [hw1]; exact (mem_use_pre b bw bb ws w HM.out 0 (by omega) _).drew
  have hc1 : Chg (fun k => k = b) w w1 := by rw [hw1]; exact ((Chg.refl (fun k => k = b) w).setCell ⟨b, 2, none⟩ _ (fun _ => rfl)).drew
  rw [← hw1]
  clear hw1 h2 z2
  have hcl := HF.out w1 hm1 hc1
  obtain ⟨d0, d1, d2, d3, d4, d5, hb1⟩ := hm1.top
  have h0 : w1.cell? ⟨b, 0, none⟩ = _ := hb1.cell 0
  simp only [List.getElem?_cons_zero] at h0
  have hbar := barred_calls b bw bb ws a w1 hm1 ha
  have hmost := hm1.most
  have HB := Lib.hid hbar
  have HC := Lib.hid hcl
  clear hb1 hm1 hc1 hcl hbar HF HN HM
  generalize ws.length = n at *
  have hal : (a : Int) < (n : Int) := by omega
  have ha0 : (0 : Int) ≤ (a : Int) := by omega
  go_wp2_with fail
  refine HB.out.mono ?_; rintro e w' ⟨rfl, rfl⟩
  go_wp2_with fail
  refine HC.out.mono ?_; rintro e w' ⟨rfl, hR⟩
  go_wp2
  go_end0
  exact ⟨rfl, hR⟩
/-- A step of a kind at a word that may be used: what the closure does to it. -/
theorem useS_calls (b bw bb : Nat) (ws : List Nat) (a : Nat) (q0 : Addr) (w : World) (R : World → Prop) (hm : MemAt w b bw bb ws) (ha : a < ws.length)
    (hf : ∀ w1, MemAt w1 b bw bb ws → Chg (fun k => k = b) w w1 → Calls Try.prog 30 #[.pointer (some ⟨bw, a, none⟩), .pointer (some q0)] w1 fun e w' => e = .returned (.tuple #[]) ∧ R w') :
    Calls Try.prog 29 #[.pointer (some ⟨b, 0, none⟩), .int .i64 1, .int .i64 a, .func (.func 30) #[] #[.pointer (some q0)]] w fun e w' => e = .returned (.tuple #[]) ∧ R w' := by
  obtain ⟨c0, c1, c2, c3, c4, c5, hb⟩ := hm.top
  have h2 : w.cell? ⟨b, 3, none⟩ = _ := hb.cell 3
  have z2 := hb.free 3
  simp only [List.getElem?_cons_succ, List.getElem?_cons_zero] at h2
  have hn := none_calls b bw bb ws w hm
  have HN := Lib.hid hn; clear hn
  have HM := Lib.hid hm
  have HF := Lib.hid hf
  clear hb hm hf
  go_enter Try.func29, Try.ntmps29
  go_wp2_with fail
  refine HN.out.mono ?_; rintro e w' ⟨rfl, rfl⟩
  go_wp2_with fail
  go_region
  obtain ⟨w1, hw1⟩ : ∃ w1, w1 = (w.setCell ⟨b, 3, none⟩ (.int .i64 (wrap64 (c1 + 1)))).drew := ⟨_, rfl⟩
  have hm1 : MemAt w1 b bw bb ws := by rw [hw1]; exact (mem_use_pre b bw bb ws w HM.out 1 (by omega) _).drew
  have hc1 : Chg (fun k => k = b) w w1 := by rw [hw1]; exact ((Chg.refl (fun k => k = b) w).setCell ⟨b, 3, none⟩ _ (fun _ => rfl)).drew
  rw [← hw1]
  clear hw1 h2 z2
  have hcl := HF.out w1 hm1 hc1
  obtain ⟨d0, d1, d2, d3, d4, d5, hb1⟩ := hm1.top
  have h0 : w1.cell? ⟨b, 0, none⟩ = _ := hb1.cell 0
  simp only [List.getElem?_cons_zero] at h0
  have hbar := barred_calls b bw bb ws a w1 hm1 ha
  have hmost := hm1.most
  have HB := Lib.hid hbar
  have HC := Lib.hid hcl
  clear hb1 hm1 hc1 hcl hbar HF HN HM
  generalize ws.length = n at *
  have hal : (a : Int) < (n : Int) := by omega
  have ha0 : (0 : Int) ≤ (a : Int) := by omega
  go_wp2_with fail
  refine HB.out.mono ?_; rintro e w' ⟨rfl, rfl⟩
  go_wp2_with fail
  refine HC.out.mono ?_; rintro e w' ⟨rfl, hR⟩
  go_wp2
  go_end0
  exact ⟨rfl, hR⟩
/-- A step of a kind at a word that may be used: what the closure does to it. -/
theorem useW_calls (b bw bb : Nat) (ws : List Nat) (a : Nat) (q0 q1 q2 : Addr) (w : World) (R : World → Prop) (hm : MemAt w b bw bb ws) (ha : a < ws.length)
    (hf : ∀ w1, MemAt w1 b bw bb ws → Chg (fun k => k = b) w w1 → Calls Try.prog 46 #[.pointer (some ⟨bw, a, none⟩), .pointer (some q0), .pointer (some q1), .pointer (some q2)] w1 fun e w' => e = .returned (.tuple #[]) ∧ R w') :
    Calls Try.prog 29 #[.pointer (some ⟨b, 0, none⟩), .int .i64 2, .int .i64 a, .func (.func 46) #[] #[.pointer (some q0), .pointer (some q1), .pointer (some q2)]] w fun e w' => e = .returned (.tuple #[]) ∧ R w' := by
  obtain ⟨c0, c1, c2, c3, c4, c5, hb⟩ := hm.top
  have h2 : w.cell? ⟨b, 4, none⟩ = _ := hb.cell 4
  have z2 := hb.free 4
  simp only [List.getElem?_cons_succ, List.getElem?_cons_zero] at h2
  have hn := none_calls b bw bb ws w hm
  have HN := Lib.hid hn; clear hn
  have HM := Lib.hid hm
  have HF := Lib.hid hf
  clear hb hm hf
  go_enter Try.func29, Try.ntmps29
  go_wp2_with fail
  refine HN.out.mono ?_; rintro e w' ⟨rfl, rfl⟩
  go_wp2_with fail
  go_region
  obtain ⟨w1, hw1⟩ : ∃ w1, w1 = (w.setCell ⟨b, 4, none⟩ (.int .i64 (wrap64 (c2 + 1)))).drew := ⟨_, rfl⟩
  have hm1 : MemAt w1 b bw bb ws := by rw [hw1]; exact (mem_use_pre b bw bb ws w HM.out 2 (by omega) _).drew
  have hc1 : Chg (fun k => k = b) w w1 := by rw [hw1]; exact ((Chg.refl (fun k => k = b) w).setCell ⟨b, 4, none⟩ _ (fun _ => rfl)).drew
  rw [← hw1]
  clear hw1 h2 z2
  have hcl := HF.out w1 hm1 hc1
  obtain ⟨d0, d1, d2, d3, d4, d5, hb1⟩ := hm1.top
  have h0 : w1.cell? ⟨b, 0, none⟩ = _ := hb1.cell 0
  simp only [List.getElem?_cons_zero] at h0
  have hbar := barred_calls b bw bb ws a w1 hm1 ha
  have hmost := hm1.most
  have HB := Lib.hid hbar
  have HC := Lib.hid hcl
  clear hb1 hm1 hc1 hcl hbar HF HN HM
  generalize ws.length = n at *
  have hal : (a : Int) < (n : Int) := by omega
  have ha0 : (0 : Int) ≤ (a : Int) := by omega
  go_wp2_with fail
  refine HB.out.mono ?_; rintro e w' ⟨rfl, rfl⟩
  go_wp2_with fail
  refine HC.out.mono ?_; rintro e w' ⟨rfl, hR⟩
  go_wp2
  go_end0
  exact ⟨rfl, hR⟩
end Go.Proofs.Ytjmooohhndjmiaa
