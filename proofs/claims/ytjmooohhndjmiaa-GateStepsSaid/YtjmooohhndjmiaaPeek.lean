/- contracts of slices.Clone at words, and of Peek. -/
import Derived.Test.YtjmooohhndjmiaaMemC
import Derived.Maps.AppendAt
import Derived.StillTailTactics
import Derived.Laws.Cover3
namespace Go.Proofs.Ytjmooohhndjmiaa
open Go.RowKit Go.Deep

theorem own_cells {w : World} {base : Nat} {e : TypeId} {v : Value} {n : Nat} {xs : List Value} (hn : 0 < n) (h : w.ownsRow base e 1 v n xs) :
    ∃ g c, v = .slice (some ⟨g, 0, none⟩) n c ∧ base ≤ g ∧ n ≤ c ∧ c ≤ 9223372036854775807 ∧ ∀ j u, xs[j]? = some u → w.cell? ⟨g, j, none⟩ = some u := by
  rcases h.2 with ⟨_, h0⟩ | ⟨g, cap, cur, rfl, hb, hh, hc, hm, hs, ht⟩
  · omega
  · refine ⟨g, cap, rfl, hb, hc, by simpa [maxLen] using hm, fun j u hu => ?_⟩
    have := h.cells (g := g) rfl j u hu
    rw [add_none, Nat.zero_add] at this
    exact this

theorem clone_calls (g off n cap : Nat) (xs : List Nat) (w : World) (hn : 0 < n) (hn2 : n ≤ 65536) (hx : xs.length = n) (hc : ∀ j u, (wordVals xs)[j]? = some u → w.cell? ⟨g, off + j, none⟩ = some u) :
    Calls Try.prog 41 #[.slice (some ⟨g, off, none⟩) n cap] w fun e w' => ∃ g' c', e = .returned (.slice (some ⟨g', 0, none⟩) n c') ∧ (∀ j u, (wordVals xs)[j]? = some u → w'.cell? ⟨g', j, none⟩ = some u) ∧ w.heap.size ≤ g' ∧ Below w.heap.size w w' := by
  obtain ⟨i0, hi, hz⟩ := Option.map_eq_some_iff.1 info_u64
  simp only [Prod.mk.injEq] at hz
  obtain ⟨hz0, hz1, hz2⟩ := hz
  have HI := Lib.hid hi; have HZ0 := Lib.hid hz0; have HZ1 := Lib.hid hz1; have HZ2 := Lib.hid hz2
  have HC := Lib.hid hc
  have hxl : (wordVals xs).length = n * 1 := by simp [wordVals, hx]
  have hone : ∀ v ∈ wordVals xs, v.oneCell' = true := by
    intro v hv
    simp [wordVals] at hv
    obtain ⟨z, _, rfl⟩ := hv
    rfl
  have HXL := Lib.hid hxl
  have HO := Lib.hid hone
  have hn0 : (n : Int) ≠ 0 := by omega
  clear hi hz0 hz1 hz2 hc hxl hone hx
  generalize wordVals xs = cs at *
  have HN := Lib.hid (And.intro hn hn2)
  have heq : ∀ W : World, (binOp .eql 30 (.slice (some ⟨g, off, none⟩) n cap) (.slice none 0 0)).run Try.prog W = .ok (.bool false) W := by
    intro W
    simp only [binOp]
    simp [run_equal_slice_nil W _ _ _ _ _ Try.underlying30]
  go_enter Try.func41, Try.ntmps41
  go_wp2_with (first | (at_builtin; (refine wpList_append_own_at _ rfl (.tmp 5) (.tmp 6) 30 rfl w.heap.size 40 i0 (.int .u64 0) 1 8 Try.underlying30 HI.out HZ0.out HZ1.out HZ2.out rfl (by decide) _ 0 [] rfl ?c0 ⟨g, off, none⟩ n cap cs rfl HXL.out ?c1 HO.out ?c3 ?c4 ?c5 ?_)))
  case c0 => exact World.ownsRow_made w #[] 0 (Nat.le_refl _) (Nat.zero_le _) rfl
  case c1 => intro j u hu; rw [add_none]; exact kalloc _ (HC.out j u hu)
  case c3 => have := HN.out; simp [maxLen]; omega
  case c4 => have := HN.out; omega
  case c5 => simp
  · intro v' w2 hown hg _ _
    obtain ⟨g', c', rfl, hge, _, _, hcell⟩ := own_cells HN.out.1 hown
    have hB : Below w.heap.size w w2 := (bnew (Below.refl _ _) _).grown hg (by simp) (fun k hk => by
      have : k = w.heap.size := by simpa [Value.ownBlock] using hk.symm
      omega)
    have HE := Lib.hid (And.intro hcell (And.intro hge hB))
    clear hown hg hge hcell hB
    go_wp2
    go_ret
    exact ⟨g', c', rfl, HE.out.1, HE.out.2.1, HE.out.2.2⟩

set_option maxRecDepth 100000 in
/-- Peek of some words from a on. -/
theorem peek_calls (b bw bb : Nat) (ws : List Nat) (a n : Nat) (w : World) (hm : MemAt w b bw bb ws) (ha : a < ws.length) (hn : 1 ≤ n) (hn2 : n ≤ 65536) :
    Calls Try.prog 14 #[.pointer (some ⟨b, 0, none⟩), .int .i64 a, .int .i64 n] w fun e w' => ∃ g c, e = .returned (.slice (some ⟨g, 0, none⟩) (min n (ws.length - a)) c) ∧ (∀ i, i < min n (ws.length - a) → w'.cell? ⟨g, i, none⟩ = some (.int .u64 (ws.getD (a + i) 0 : Nat))) ∧ w.heap.size ≤ g ∧ Below w.heap.size w w' := by
  obtain ⟨c0, c1, c2, c3, c4, c5, hb⟩ := hm.top
  have h0 : w.cell? ⟨b, 0, none⟩ = some (.slice (some ⟨bw, 0, none⟩) ws.length ws.length) := hb.cell 0
  have HLen := Lib.hid (len_calls b bw bb ws w hm)
  have hmost := hm.most
  obtain ⟨k, hk⟩ : ∃ k, min n (ws.length - a) = k := ⟨_, rfl⟩
  have hcl := clone_calls bw a k (ws.length - a) ((ws.drop a).take k) w.drew (by omega) (by omega) (by simp; omega) (fun j u hu => by
    have hmk := (hm.drew.words).cell (a + j)
    rw [hmk]
    unfold wordVals at *
    rw [List.getElem?_map] at hu ⊢
    rw [← hu, List.getElem?_take]
    have hj : j < k := by
      rcases Nat.lt_or_ge j k with h | h
      · exact h
      · rw [List.getElem?_take, if_neg (by omega)] at hu; simp at hu
    rw [if_pos hj, List.getElem?_drop])
  have hfin : ∀ g' (W : World), (∀ j u, (wordVals ((ws.drop a).take k))[j]? = some u → W.cell? ⟨g', j, none⟩ = some u) → ∀ i, i < k → W.cell? ⟨g', i, none⟩ = some (.int .u64 (ws.getD (a + i) 0 : Nat)) := by
    intro g' W h i hi
    apply h
    unfold wordVals
    have : a + i < ws.length := by omega
    simp [hi, this]
  have HF := Lib.hid hfin
  have HCL := Lib.hid hcl
  have HIF : Hid ((if IntKind.i64.wrap ((ws.length : Int) - (a : Int)) < (n : Int) then IntKind.i64.wrap ((ws.length : Int) - (a : Int)) else (n : Int)) = (k : Int)) := Lib.hid (by
    rw [IntKind.wrap_i64]
    split <;> omega)
  have HAK : Hid (IntKind.i64.wrap ((a : Int) + (k : Int)) = ((a + k : Nat) : Int)) := Lib.hid (by rw [IntKind.wrap_i64]; omega)
  have t0 : decide ((a : Int) < 0) = false := by simp
  have s1 : (a : Int) ≤ ((a + k : Nat) : Int) := by omega
  have s2 : ((a + k : Nat) : Int) ≤ (ws.length : Int) := by omega
  have s0 : (0 : Int) ≤ (a : Int) := by omega
  have hta : ((a : Int) + (k : Int)).toNat - a = k := by omega
  have hal : a < ws.length := ha
  have t1 : decide ((n : Int) < 1) = false := by simp; omega
  have t2 : decide (ws.length ≤ a) = false := by simp; omega
  have hak2 : a + k ≤ ws.length := by omega
  rw [hk]
  clear hb hm hcl hfin ha hn hn2 hk
  generalize ws.length = L at *
  go_enter Try.func14, Try.ntmps14
  go_wp2_with fail
  refine HLen.out.mono ?_; rintro e w' ⟨rfl, rfl⟩
  go_wp2_with fail
  go_still_tail 17, (by kernel_rfl)
  rw [HIF.out, HAK.out]
  refine wpStill_step (fun K hK => ?_)
  go_simp
  rw [if_pos (by omega), if_pos (by omega), if_neg (by omega)]
  refine ⟨rfl, hK _ ?_⟩
  clear hK K
  refine wpStill_nil ?_
  change wpList _ _ _ _ _ w.drew
  go_wp2_with fail
  refine HCL.out.mono ?_; rintro e w2 ⟨g', c', rfl, h1, h2, h3⟩
  have HE := Lib.hid (And.intro (HF.out g' w2 h1) (And.intro h2 ((Below.refl _ w).drew.trans h3)))
  clear h1 h2 h3
  go_wp2
  go_ret
  exact ⟨g', c', rfl, HE.out.1, HE.out.2.1, HE.out.2.2⟩
end Go.Proofs.Ytjmooohhndjmiaa
