/- a contract of mem's Or. -/
import Derived.Test.YtjmooohhndjmiaaMemC
namespace Go.Proofs.Ytjmooohhndjmiaa
open Go.RowKit Go.Deep

/-- A step of a kind at a word that may be used: what the closure does to it. -/
theorem useO_calls (b bw bb : Nat) (ws : List Nat) (a : Nat) (q0 q1 : Addr) (w : World) (R : World → Prop) (hm : MemAt w b bw bb ws) (ha : a < ws.length)
    (hf : ∀ w1, MemAt w1 b bw bb ws → Chg (fun k => k = b) w w1 → Calls Try.prog 65 #[.pointer (some ⟨bw, a, none⟩), .pointer (some q0), .pointer (some q1)] w1 fun e w' => e = .returned (.tuple #[]) ∧ R w') :
    Calls Try.prog 29 #[.pointer (some ⟨b, 0, none⟩), .int .i64 4, .int .i64 a, .func (.func 65) #[] #[.pointer (some q0), .pointer (some q1)]] w fun e w' => e = .returned (.tuple #[]) ∧ R w' := by
  obtain ⟨c0, c1, c2, c3, c4, c5, hb⟩ := hm.top
  have h2 : w.cell? ⟨b, 6, none⟩ = _ := hb.cell 6
  have z2 := hb.free 6
  simp only [List.getElem?_cons_succ, List.getElem?_cons_zero] at h2
  have hn := none_calls b bw bb ws w hm
  have HN := Lib.hid hn; clear hn
  have HM := Lib.hid hm
  have HF := Lib.hid hf
  clear hb hm hf
  go_enter Try.func29, Try.ntmps29
  go_wp2_with fail
  refine HN.out.mono ?_; rintro e w' ⟨rfl, rfl⟩
  go_wp2_with fail
  go_region
  obtain ⟨w1, hw1⟩ : ∃ w1, w1 = (w.setCell ⟨b, 6, none⟩ (.int .i64 (wrap64 (c4 + 1)))).drew := ⟨_, rfl⟩
  have hm1 : MemAt w1 b bw bb ws := by rw [hw1]; exact (mem_use_pre b bw bb ws w HM.out 4 (by omega) _).drew
  have hc1 : Chg (fun k => k = b) w w1 := by rw [hw1]; exact ((Chg.refl (fun k => k = b) w).setCell ⟨b, 6, none⟩ _ (fun _ => rfl)).drew
  rw [← hw1]
  clear hw1 h2 z2
  have hcl := HF.out w1 hm1 hc1
  obtain ⟨d0, d1, d2, d3, d4, d5, hb1⟩ := hm1.top
  have h0 : w1.cell? ⟨b, 0, none⟩ = _ := hb1.cell 0
  simp only [List.getElem?_cons_zero] at h0
  have hbar := barred_calls b bw bb ws a w1 hm1 ha
  have hmost := hm1.most
  have HB := Lib.hid hbar
  have HC := Lib.hid hcl
  clear hb1 hm1 hc1 hcl hbar HF HN HM
  generalize ws.length = n at *
  have hal : (a : Int) < (n : Int) := by omega
  have ha0 : (0 : Int) ≤ (a : Int) := by omega
  go_wp2_with fail
  refine HB.out.mono ?_; rintro e w' ⟨rfl, rfl⟩
  go_wp2_with fail
  refine HC.out.mono ?_; rintro e w' ⟨rfl, hR⟩
  go_wp2
  go_end0
  exact ⟨rfl, hR⟩

theorem or_calls (b bw bb : Nat) (ws : List Nat) (a y : Nat) (w : World) (hm : MemAt w b bw bb ws) (ha : a < ws.length) (hy : y < 18446744073709551616) :
    Calls Try.prog 57 #[.pointer (some ⟨b, 0, none⟩), .int .i64 a, .int .u64 y] w fun e w' => e = .returned (.int .u64 (ws.getD a 0 : Nat)) ∧ MemAt w' b bw bb (ws.set a (ws.getD a 0 ||| y)) ∧ Chg (fun k => k = b ∨ k = bw) w w' := by
  obtain ⟨l1, l2, l3⟩ := hm.lt
  have hxl := hm.getD_lt a
  have hol : ws.getD a 0 ||| y < 18446744073709551616 := Nat.or_lt_two_pow (n := 64) hxl hy
  have hor : bits .or .u64 (ws.getD a 0 : Nat) (y : Nat) = ((ws.getD a 0 ||| y : Nat) : Int) := u64_or_nat _ _ hxl hy
  obtain ⟨W, hW⟩ : ∃ W, W = (w.alloc (.cells #[.int .u64 y] 40)).alloc (.cells #[.int .u64 0] 40) := ⟨_, rfl⟩
  have hmW : MemAt W b bw bb ws := by rw [hW]; exact (hm.alloc _).alloc _
  have hq : Blk W w.heap.size 40 [.int .u64 y] := by rw [hW]; exact (Blk.new w 40 [.int .u64 y]).alloc _
  have hp : Blk W (w.heap.size + 1) 40 [.int .u64 0] := by rw [hW]; have := Blk.new (w.alloc (.cells #[.int .u64 y] 40)) 40 [.int .u64 0]; simpa using this
  have hcW : Chg (fun k => k = b ∨ k = bw) w W := by rw [hW]; exact ((Chg.refl _ _).alloc _).alloc _
  obtain ⟨x, hx⟩ : ∃ x, ws.getD a 0 = x := ⟨_, rfl⟩
  have hu := useO_calls b bw bb ws a ⟨w.heap.size + 1, 0, none⟩ ⟨w.heap.size, 0, none⟩ W (fun w' => MemAt w' b bw bb (ws.set a (x ||| y)) ∧ Chg (fun k => k = b ∨ k = bw) w w' ∧ Blk w' (w.heap.size + 1) 40 [.int .u64 (x : Nat)]) hmW ha (by
    intro w1 hm1 hc1
    have hp1 : Blk w1 (w.heap.size + 1) 40 [.int .u64 0] := hp.chg hc1 (by omega)
    have hq1 : Blk w1 w.heap.size 40 [.int .u64 y] := hq.chg hc1 (by omega)
    obtain ⟨g0, z0⟩ := hm1.word a ha
    have g1 : w1.cell? ⟨w.heap.size + 1, 0, none⟩ = some (.int .u64 0) := hp1.cell 0
    have g2 := hp1.free 0
    have g3 : w1.cell? ⟨w.heap.size, 0, none⟩ = some (.int .u64 y) := hq1.cell 0
    rw [hx] at g0 hor hol
    have nb : w.heap.size + 1 ≠ bw := by omega
    have nb1 : ¬ bw = w.heap.size + 1 := by omega
    have hc2 : Chg (fun k => k = b ∨ k = bw) w w1 := hcW.trans hc1 (fun _ _ h => .inl h)
    have HF := Lib.hid (show MemAt ((w1.setCell ⟨w.heap.size + 1, 0, none⟩ (.int .u64 (x : Nat))).setCell ⟨bw, a, none⟩ (.int .u64 ((x ||| y : Nat) : Int))) b bw bb (ws.set a (x ||| y)) ∧ Chg (fun k => k = b ∨ k = bw) w ((w1.setCell ⟨w.heap.size + 1, 0, none⟩ (.int .u64 (x : Nat))).setCell ⟨bw, a, none⟩ (.int .u64 ((x ||| y : Nat) : Int))) ∧ Blk ((w1.setCell ⟨w.heap.size + 1, 0, none⟩ (.int .u64 (x : Nat))).setCell ⟨bw, a, none⟩ (.int .u64 ((x ||| y : Nat) : Int))) (w.heap.size + 1) 40 [.int .u64 (x : Nat)] from
      ⟨(hm1.other _ _ (by simp; omega) (by simp; omega) (by simp; omega)).set a (x ||| y) hol, (hc2.setCell _ _ (fun h => by simp at h; omega)).setCell _ _ (fun _ => .inr rfl), (hp1.set 0 _).other _ _ nb⟩)
    clear hm1 hc1 hp1 hq1 hp hq hcW hmW hW hc2 hx hxl hol
    go_enter Try.func65, Try.ntmps65
    go_wp2
    go_region
    go_wp2
    go_end0
    exact ⟨rfl, HF.out.1.drew, HF.out.2.1.drew, HF.out.2.2⟩)
  rw [hx]
  have HU := Lib.hid hu
  have hmf : ∀ (fn : Fn) (first cap : Array Value) (w : World), (Instr.makeFunc fn first cap).run Try.prog w = .ok (.func fn first cap) w := fun _ _ _ _ => rfl
  clear hu hp hq hcW hmW hx hxl hol hor
  go_enter Try.func57, Try.ntmps57
  go_wp2_with fail
  rw [← hW]
  refine HU.out.mono ?_; rintro e w' ⟨rfl, hm', hc', hp'⟩
  have g1 : w'.cell? ⟨w.heap.size + 1, 0, none⟩ = some (.int .u64 (x : Nat)) := hp'.cell 0
  have g2 := hp'.free 0
  have HF := Lib.hid (show MemAt (w'.setCell ⟨w.heap.size + 1, 0, none⟩ (.int .u64 (x : Nat))) b bw bb (ws.set a (x ||| y)) ∧ Chg (fun k => k = b ∨ k = bw) w (w'.setCell ⟨w.heap.size + 1, 0, none⟩ (.int .u64 (x : Nat))) from
      ⟨hm'.other _ _ (by simp; omega) (by simp; omega) (by simp; omega), hc'.setCell _ _ (fun h => by simp at h; omega)⟩)
  have g3 : (w'.setCell ⟨w.heap.size + 1, 0, none⟩ (.int .u64 (x : Nat))).cell? ⟨w.heap.size + 1, 0, none⟩ = some (.int .u64 (x : Nat)) := (hp'.set 0 _).cell 0
  clear hm' hc' hp' HU hW hm l1 l2 l3
  go_wp2
  refine bodyPost_ret (v := .int .u64 x) (by simp [results, Try.results57, go_sem, g3]) rfl ⟨rfl, HF.out⟩
end Go.Proofs.Ytjmooohhndjmiaa
