/- the reference's operation (sluicewayref17): Step. (Printed by genref2.py.) -/
import Derived.Test.YtobdpieijgiaoaaRefS
import Derived.Test.YtobdpieijgiaoaaSys
namespace Go.Proofs.Ytobdpieijgiaoaa
open Go.RowKit Go.Deep

/-- what a step of the reference's operation tells: an operation, and a memory. -/
def RefTold17 (w : World) (gw gb : Nat) (ws' : List Nat) (op : List Value) (e : Ending) (w' : World) : Prop :=
  ∃ (g c : Nat) (d0 d1 d2 d3 d4 d5 : Int), e = .returned (.tuple #[.agg op.toArray, .agg #[.slice (some ⟨g, 0, none⟩) ws'.length c, .slice (some ⟨gb, 0, none⟩) ws'.length ws'.length, .int .i64 d0, .int .i64 d1, .int .i64 d2, .int .i64 d3, .int .i64 d4, .int .i64 d5, .int .i64 (-1), .bool false]]) ∧
    RefAt w' g gb ws' ∧ (g = gw ∨ w.heap.size ≤ g) ∧ Below w.heap.size w w'
theorem RefAt.drew {w : World} {gw gb : Nat} {ws : List Nat} (h : RefAt w gw gb ws) : RefAt w.drew gw gb ws := ⟨h.words, h.marks, h.ne, h.pos, h.most, h.fit⟩
theorem set_same {ws : List Nat} {a : Nat} (ha : a < ws.length) : ws.set a (ws.getD a 0) = ws := by
  rw [show ws.getD a 0 = ws[a] by simp [List.getD, ha]]
  exact List.set_getElem_self ha
theorem refload_same (gw cw gb : Nat) (c0 c1 c2 c3 c4 c5 : Int) (ws : List Nat) (a : Nat) (w : World) (hm : RefAt w gw gb ws) (ha : a < ws.length) :
    Calls Try.prog 36 #[.agg #[.slice (some ⟨gw, 0, none⟩) ws.length cw, .slice (some ⟨gb, 0, none⟩) ws.length ws.length, .int .i64 c0, .int .i64 c1, .int .i64 c2, .int .i64 c3, .int .i64 c4, .int .i64 c5, .int .i64 (-1), .bool false],
      .agg #[.int .i64 0, .int .i64 a, .int .u64 0, .int .u64 0, .int .u64 0, .int .u64 0]] w fun e w' => RefTold w gb ws (ws.getD a 0) false e w' := by
  have h := refload_calls gw cw gb c0 c1 c2 c3 c4 c5 ws a 0 0 0 0 w hm ha
  rw [set_same ha] at h
  exact h
theorem refswap_same (gw cw gb : Nat) (c0 c1 c2 c3 c4 c5 : Int) (ws : List Nat) (a p q : Nat) (w : World) (hm : RefAt w gw gb ws) (ha : a < ws.length) (he : ¬ ws.getD a 0 = p) :
    Calls Try.prog 36 #[.agg #[.slice (some ⟨gw, 0, none⟩) ws.length cw, .slice (some ⟨gb, 0, none⟩) ws.length ws.length, .int .i64 c0, .int .i64 c1, .int .i64 c2, .int .i64 c3, .int .i64 c4, .int .i64 c5, .int .i64 (-1), .bool false],
      .agg #[.int .i64 2, .int .i64 a, .int .u64 p, .int .u64 q, .int .u64 0, .int .u64 0]] w fun e w' => RefTold w gb ws 0 false e w' := by
  have h := refswap0_calls gw cw gb c0 c1 c2 c3 c4 c5 ws a p q 0 0 w hm ha he
  rw [set_same ha] at h
  exact h
theorem kz {k : Nat} (h : ¬ k = 0) : ((k : Int) == 0) = false := by rw [beq_eq_false_iff_ne]; omega
theorem dlt {a b : Nat} (h : ¬ a < b) : decide (a < b) = false := by simp; omega
theorem dle {a b : Nat} (h : ¬ a < b) : decide (b ≤ a) = true := by simp; omega
theorem dle0 {a b : Nat} (h : a < b) : decide (b ≤ a) = false := by simp; omega
theorem dk1 {k n : Nat} (h : k + 1 < n) : decide ((k : Int) + 1 < (n : Int)) = true := by rw [decide_eq_true_eq]; omega
theorem dk0 {k n : Nat} (h : ¬ k + 1 < n) : decide ((k : Int) + 1 < (n : Int)) = false := by rw [decide_eq_false_iff_not]; omega
theorem wsub {p g d : Nat} (hp : p < 18446744073709551616) (h : ¬ p < g) (hd : p - g = d) : IntKind.u64.wrap ((p : Int) - (g : Int)) = (d : Int) := by
  rw [show (p : Int) - (g : Int) = (d : Int) by omega]; exact wrap_small d (by omega)
theorem wsm {s : Nat} (hs : s ≤ 1024) : IntKind.u64.wrap (s : Int) = (s : Int) := wrap_small s (by omega)
theorem wk1 {k n : Nat} (h : k < n) (hn : n ≤ 64) : wrap64 ((k : Int) + 1) = (k : Int) + 1 := by unfold wrap64; omega
theorem set9 {w : World} {b : Nat} {t : TypeId} {u0 u1 u2 u3 u4 u5 u6 u7 u8 : Value} (h : Blk w b t [u0, u1, u2, u3, u4, u5, u6, u7, u8]) (v0 v1 v2 v3 v4 v5 v6 v7 v8 : Value) :
    Blk (((((((((w.setCell ⟨b, 0, none⟩ v0).setCell ⟨b, 1, none⟩ v1).setCell ⟨b, 2, none⟩ v2).setCell ⟨b, 3, none⟩ v3).setCell ⟨b, 4, none⟩ v4).setCell ⟨b, 5, none⟩ v5).setCell ⟨b, 6, none⟩ v6).setCell ⟨b, 7, none⟩ v7).setCell ⟨b, 8, none⟩ v8) b t [v0, v1, v2, v3, v4, v5, v6, v7, v8] ∧ Chg (fun j => j = b) w (((((((((w.setCell ⟨b, 0, none⟩ v0).setCell ⟨b, 1, none⟩ v1).setCell ⟨b, 2, none⟩ v2).setCell ⟨b, 3, none⟩ v3).setCell ⟨b, 4, none⟩ v4).setCell ⟨b, 5, none⟩ v5).setCell ⟨b, 6, none⟩ v6).setCell ⟨b, 7, none⟩ v7).setCell ⟨b, 8, none⟩ v8) := by
  constructor
  · exact ((((((((h.set 0 v0).set 1 v1).set 2 v2).set 3 v3).set 4 v4).set 5 v5).set 6 v6).set 7 v7).set 8 v8
  · have step : ∀ (W : World) (i : Nat) (v : Value), Chg (fun j => j = b) w W → Chg (fun j => j = b) w (W.setCell ⟨b, i, none⟩ v) := fun W i v hc => hc.setCell ⟨b, i, none⟩ v (fun _ => rfl)
    exact step _ 8 _ (step _ 7 _ (step _ 6 _ (step _ 5 _ (step _ 4 _ (step _ 3 _ (step _ 2 _ (step _ 1 _ (step _ 0 _ (Chg.refl _ _)))))))))

end Go.Proofs.Ytobdpieijgiaoaa
