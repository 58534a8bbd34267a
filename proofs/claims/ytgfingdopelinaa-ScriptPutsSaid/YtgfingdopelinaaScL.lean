/- contract of Entry.lay. (Printed by genlay.py.) -/
import Derived.Test.YtgfingdopelinaaScH
import Derived.Lib.AppendStr
import Derived.Deep.DeepCutAuto
import Derived.Deep.RegionHeld3
namespace Go.Proofs.Ytgfingdopelinaa
set_option linter.unusedSimpArgs false
set_option linter.unusedVariables false
open Go.RowKit Go.Deep

/-- an operation whose guard says no is passed over. -/
theorem skip_first {P : Program} {ops : Array Oper} {Q : Exit → Act → World → Prop} {md : Region.Mode} {S : World → Prop} (i : Nat) {oi : Oper} (d : Option Tmp) {fuel : Nat} {listed : Array Bool} {a : Act} {w : World} (hi : ops[i]? = some oi) (hd : oi.dst = d)
    (hs : Region.noSelect ops = true) (hf : Region.free md ops listed i = true) (hr : (Region.ready md ops listed).contains i = true)
    (hQ : ∀ c a w, Q (.panic c) (a.put d undef) w → Q (.panic c) a w) (hw : Region.wanted oi (yielded ops a.tmps) = false) (hS : S w)
    (h : wpAnyH P md ops Q S fuel (listed.setIfInBounds i true) (a.put d undef) w) : wpAnyH P md ops Q S (fuel + 1) listed a w := by
  subst hd
  exact wpAnyH_take hi hs hf hr hQ (Or.inr ⟨hw, rfl⟩) hS h
theorem take_first {P : Program} {ops : Array Oper} {Q : Exit → Act → World → Prop} {md : Region.Mode} {S : World → Prop} (i : Nat) {oi : Oper} (d : Option Tmp) (v : Value) {fuel : Nat} {listed : Array Bool} {a : Act} {w : World} (hi : ops[i]? = some oi) (hd : oi.dst = d)
    (hs : Region.noSelect ops = true) (hf : Region.free md ops listed i = true) (hr : (Region.ready md ops listed).contains i = true)
    (hQ : ∀ c a w, Q (.panic c) (a.put d v) w → Q (.panic c) a w) (hw : Region.wanted oi (yielded ops a.tmps) = true) (hy : ∀ w, S w → (execOp a.eval oi).run P w = .ok (.value v) w) (hS : S w)
    (h : wpAnyH P md ops Q S fuel (listed.setIfInBounds i true) (a.put d v) w) : wpAnyH P md ops Q S (fuel + 1) listed a w := by
  subst hd
  exact wpAnyH_take hi hs hf hr hQ (Or.inl ⟨hw, hy⟩) hS h
theorem BRow.trans {w0 w1 w2 : World} {base : Nat} {v0 v1 v2 : Value} {bs cs : List Nat} (h : BRow w0 w1 base v0 v1 bs) (k : BRow w1 w2 base v1 v2 cs) : BRow w0 w2 base v0 v2 cs := by
  refine ⟨k.own, h.chg.trans k.chg (fun j hj e => ?_), ?_⟩
  · rcases h.blk with hv | ⟨i, hv, hi⟩
    · exact hv.symm.trans e
    · rw [hv] at e; injection e with e; omega
  · rcases k.blk with e | ⟨i, hv, hi⟩
    · rw [e]; exact h.blk
    · exact .inr ⟨i, hv, Nat.le_trans h.chg.size hi⟩
theorem BRow.from {w w3 w' : World} {base : Nat} {v v' : Value} {bs : List Nat} (hb : Below w.heap.size w w3) (h : BRow w3 w' base v v' bs) : BRow w w' base v v' bs :=
  ⟨h.own, (chg_of_below _ hb).trans h.chg (fun _ _ h => h), h.blk.imp id (fun ⟨i, h1, h2⟩ => ⟨i, h1, Nat.le_trans hb.size h2⟩)⟩
theorem own_below {w w' : World} {base : Nat} {e : TypeId} {v : Value} {n : Nat} {xs : List Value} (h : w.ownsRow base e 1 v n xs) (hb : Below w.heap.size w w') : w'.ownsRow base e 1 v n xs :=
  h.kept (row := none) ⟨hb.os, hb.tape, hb.output, hb.size, fun j hj _ => hb.block j hj⟩ (by cases v.ownBlock <;> simp)
/-- the bytes of an entry that is clean. -/
def putE (f : En) : List Nat :=
  if f.pick then putL [2 * f.thread.toNat + 1]
  else putL [2 * f.thread.toNat, f.kind.toNat, f.topic.toNat] ++
    (if f.kind = 0 then putL [f.mode.toNat, f.text.size] ++ bytesOf f.text
     else if f.kind = 4 then putL [f.gk.toNat, f.gen, f.pos]
     else if f.kind = 2 ∨ f.kind = 3 then putL [f.gk.toNat, f.gen] else [])
theorem strCells_eq (s : ByteArray) : Lib.strCells s = u8s (bytesOf s) := by
  unfold Lib.strCells u8s bytesOf
  rw [List.map_map]
  rfl
/-- 'append(v, text...)' onto a row of the call's own. -/
theorem str_run (w : World) (base : Nat) (v : Value) (xs : List Nat) (s : ByteArray) (hown : w.ownsRow base 5 1 v xs.length (u8s xs)) (hbase : base ≤ w.heap.size) (hlen : xs.length + s.size ≤ 4398046511104) :
    ∃ v' w', (Builtin.append_ #[41, 9] 41 #[v, .string s]).run Try.prog w = .ok v' w' ∧ BRow w w' base v v' (xs ++ bytesOf s) := by
  obtain ⟨i0, hi, hz⟩ := Option.map_eq_some_iff.1 info_u8
  simp only [Prod.mk.injEq] at hz
  obtain ⟨hz0, hz1, hz2⟩ := hz
  obtain ⟨v', w', hr, h1, h2, h3⟩ := Lib.run_append_own_string (P := Try.prog) w base 41 9 41 5 i0 Try.underlying41 Try.underlying9 hi hz0 hz1 hz2 v _ _ hown s (by simp [maxLen]; omega) (by omega) hbase
  refine ⟨v', w', hr, (brow_start hown).grow (cs := bytesOf s) (by rw [bytesOf_len, ← strCells_eq]; exact h1) h2 ?_⟩
  rcases hown.2 with ⟨rfl, hx⟩ | ⟨g, cap, cur, rfl, hbg, hg, hnc, hcm, hcs, htake⟩
  · have hxs : xs = [] := List.eq_nil_of_length_eq_zero hx
    subst hxs
    obtain ⟨v2, w2, hr2, h12, _, _⟩ := Lib.run_append_own_string (P := Try.prog) w w.heap.size 41 9 41 5 i0 Try.underlying41 Try.underlying9 hi hz0 hz1 hz2 (.slice none 0 0) 0 [] (World.ownsRow_nil _ _ _ _) s (by simp [maxLen]; omega) (by omega) (Nat.le_refl _)
    have e := hr.symm.trans hr2
    injection e with e1 e2
    subst e1
    cases hv : v'.ownBlock with
    | none => exact .inl rfl
    | some j => exact .inr ⟨j, rfl, (h12.lt j hv).1⟩
  · have hcs' : cur.size = cap := by simpa using hcs
    by_cases hroom : xs.length + s.size ≤ cap
    · have e := hr.symm.trans (Lib.run_append_room_string (P := Try.prog) w 41 9 41 5 i0 Try.underlying41 Try.underlying9 hi hz1 g xs.length cap cur hg s hroom (by omega))
      injection e with e1 e2
      subst e1
      exact .inl rfl
    · have holds : ∀ j u, (u8s xs)[j]? = some u → w.cell? ((⟨g, 0, none⟩ : Addr).add j) = some u := hown.cells (g := g) rfl
      have e := hr.symm.trans (Lib.run_append_grow_string (P := Try.prog) w 41 9 41 5 i0 (.int .u8 0) Try.underlying41 Try.underlying9 hi hz0 ⟨g, 0, none⟩ xs.length cap (u8s xs) (by rw [hz1, u8s_len, Nat.mul_one]) holds s (by omega) (by omega) (by rw [hz2]; exact growslice_fits (by omega) (by omega)))
      injection e with e1 e2
      subst e1
      exact .inr ⟨_, rfl, Nat.le_refl _⟩
theorem lay_start {w w1 : World} {c0 c1 c2 c3 c4 c5 c6 c7 c8 : Value} (hb : Below (w.alloc (.cells #[c0, c1, c2, c3, c4, c5, c6, c7, c8] 34)).heap.size (w.alloc (.cells #[c0, c1, c2, c3, c4, c5, c6, c7, c8] 34)) w1) (v0 v1 v2 v3 v4 v5 v6 v7 v8 : Value) :
    ∃ W2, W2 = ((((((((((w1).setCell ⟨w.heap.size, 0, none⟩ v0).setCell ⟨w.heap.size, 1, none⟩ v1).setCell ⟨w.heap.size, 2, none⟩ v2).setCell ⟨w.heap.size, 3, none⟩ v3).setCell ⟨w.heap.size, 4, none⟩ v4).setCell ⟨w.heap.size, 5, none⟩ v5).setCell ⟨w.heap.size, 6, none⟩ v6).setCell ⟨w.heap.size, 7, none⟩ v7).setCell ⟨w.heap.size, 8, none⟩ v8) ∧ Blk W2 w.heap.size 34 [v0, v1, v2, v3, v4, v5, v6, v7, v8] ∧ Below w.heap.size w W2 ∧ w.heap.size < W2.heap.size := by
  have hbl := (Blk.new w 34 [c0, c1, c2, c3, c4, c5, c6, c7, c8]).chg (chg_of_below (fun _ => False) hb) (fun h => h)
  obtain ⟨h1, h2⟩ := set9 (b := w.heap.size) hbl v0 v1 v2 v3 v4 v5 v6 v7 v8
  refine ⟨_, rfl, h1, ?_, h1.lt⟩
  have hb0 : Below w.heap.size w w1 := bseq (bnew (Below.refl _ _) _) hb
  exact h2.below hb0 hb0.size (fun k hk => by omega)
theorem oper_append2 {P : Program} {o : Oper} {a : Act} {w w' : World} {next : Act → World → Prop} {Q : Exit → Act → World → Prop} (s x : Operand) (t u : TypeId) (ho : o.op = .call { callee := .builtin .append, args := #[s, x], argTypes := #[t, u] }) {v1 v2 v' : Value}
    (h1 : a.eval s = v1) (h2 : a.eval x = v2) (hr : (Builtin.append_ #[t, u] o.type #[v1, v2]).run P w = .ok v' w') (h : next (a.put o.dst v') w') : o.wp P a w next Q := by
  unfold Oper.wp execOp
  simp only [ho, resolve, invoke, builtin, Sem.run_bind, Sem.run_pure, Result.andThen_ok, List.map_toArray, List.map_cons, List.map_nil, h1, h2, hr]
  exact h
theorem call_cells {w : World} {b : Nat} {t : TypeId} {v0 v1 v2 v3 v4 v5 v6 : Value} (h : Blk w b t [v0, v1, v2, v3, v4, v5, v6]) :
    w.cell? ⟨b, 0, none⟩ = some v0 ∧ w.cell? ⟨b, 1, none⟩ = some v1 ∧ w.cell? ⟨b, 2, none⟩ = some v2 ∧ w.cell? ⟨b, 3, none⟩ = some v3 ∧ w.cell? ⟨b, 4, none⟩ = some v4 ∧ w.cell? ⟨b, 5, none⟩ = some v5 ∧ w.cell? ⟨b, 6, none⟩ = some v6 :=
  ⟨h.cell 0, h.cell 1, h.cell 2, h.cell 3, h.cell 4, h.cell 5, h.cell 6⟩
set_option maxRecDepth 100000 in
set_option maxHeartbeats 4000000 in
theorem lay_0 (e : En) (a kd tp gk gn md ps : Nat) (tx : ByteArray) (base : Nat) (v : Value) (bs : List Nat) (w : World) (hcl : e.clean = En.mk a false kd tp gk gn md tx ps) (ha : a ≤ 63) (hkd : kd = 0) (htp : tp ≤ 3) (hgk : gk ≤ 7) (hmd : md ≤ 2) (htx : tx.size ≤ 64) (hgn : gn < 18446744073709551616) (hps : ps < 18446744073709551616)
    (hown : w.ownsRow base 5 1 v bs.length (u8s bs)) (hbase : base ≤ w.heap.size) (hlen : bs.length ≤ 549755813888) :
    Calls Try.prog 27 #[e.val, v] w fun r w' => ∃ v', r = .returned v' ∧ BRow w w' base v v' (bs ++ putE (En.mk a false kd tp gk gn md tx ps)) := by
  have HCL := fun W => Lib.hid (clean_calls e W)
  simp only [hcl] at HCL
  have HL := Lib.hid (And.intro hkd (And.intro hgn (And.intro hps (And.intro htx (And.intro hlen hbase)))))
  have HO := Lib.hid hown
  have HP : Hid (putE (En.mk a false kd tp gk gn md tx ps) = putL [2 * a, kd, tp] ++ (putL [md, tx.size] ++ bytesOf tx)) := Lib.hid (by unfold putE; simp [hkd]; try rfl)
  have t_0 : (((kd : Nat) : Int) == 0) = true := by rw [beq_iff_eq]; omega
  have hkd4 : kd ≤ 4 := by omega
  obtain ⟨th', pk', kd', tp', gk', gn', md', tx', ps'⟩ := e
  clear hcl hkd hgn hps htx hlen hown
  unfold En.val at *
  dsimp only at *
  go_enter Try.func27, Try.ntmps27
  go_wp2_with fail
  refine (HCL _).out.mono ?_; rintro r w1 ⟨rfl, hb1⟩
  have hbl := (Blk.new w 34 [.int .i64 th', .bool pk', .int .i64 kd', .int .i64 tp', .int .i64 gk', .int .u64 gn', .int .i64 md', .string tx', .int .u64 ps']).chg (chg_of_below (fun _ => False) hb1) (fun h => h)
  obtain ⟨⟨x0, x1, x2, x3, x4, x5, x6, x7, x8⟩, z0, z1, z2, z3, z4, z5, z6, z7, z8⟩ := en_cells hbl
  have HB1 := Lib.hid hb1
  clear hb1 hbl
  go_upto_region 2 with fail
  obtain ⟨W2, hW2, hb2, hw2, hl2⟩ := lay_start HB1.out (.int .i64 (a : Nat)) (.bool false) (.int .i64 (kd : Nat)) (.int .i64 (tp : Nat)) (.int .i64 (gk : Nat)) (.int .u64 (gn : Nat)) (.int .i64 (md : Nat)) (.string tx) (.int .u64 (ps : Nat))
  rw [← hW2]
  clear hW2 x0 x1 x2 x3 x4 x5 x6 x7 x8 z0 z1 z2 z3 z4 z5 z6 z7 z8
  have HW2 := Lib.hid (And.intro hb2 (And.intro hw2 hl2))
  obtain ⟨⟨x0, x1, x2, x3, x4, x5, x6, x7, x8⟩, _⟩ := en_cells hb2
  clear hb2 hw2 hl2 HB1
  have HOW := Lib.hid (own_below HO.out HW2.out.2.1)
  have HNE := Lib.hid (fun j (h : v.ownBlock = some j) => (HO.out.lt j h).2)
  go_upto_region 5 with fail
  have HC3 := Lib.hid (Blk.new W2 32 [.int .i64 (kd : Nat), .int .i64 (tp : Nat), .int .i64 (gk : Nat), .int .u64 (gn : Nat), .int .i64 (md : Nat), .string tx, .int .u64 (ps : Nat)])
  have HB3 := Lib.hid (HW2.out.1.alloc (.cells #[.int .i64 (kd : Nat), .int .i64 (tp : Nat), .int .i64 (gk : Nat), .int .u64 (gn : Nat), .int .i64 (md : Nat), .string tx, .int .u64 (ps : Nat)] 32))
  have HW3 := Lib.hid (HW2.out.2.1.trans ((bnew (Below.refl _ W2) (.cells #[.int .i64 (kd : Nat), .int .i64 (tp : Nat), .int .i64 (gk : Nat), .int .u64 (gn : Nat), .int .i64 (md : Nat), .string tx, .int .u64 (ps : Nat)] 32)).mono HW2.out.2.1.size))
  have HO3 := Lib.hid (HOW.out.alloc (.cells #[.int .i64 (kd : Nat), .int .i64 (tp : Nat), .int .i64 (gk : Nat), .int .u64 (gn : Nat), .int .i64 (md : Nat), .string tx, .int .u64 (ps : Nat)] 32))
  have HCN := Lib.hid (HW2.out.2.2)
  generalize W2.alloc (.cells #[.int .i64 (kd : Nat), .int .i64 (tp : Nat), .int .i64 (gk : Nat), .int .u64 (gn : Nat), .int .i64 (md : Nat), .string tx, .int .u64 (ps : Nat)] 32) = W3 at HC3 HB3 HW3 HO3 ⊢
  clear x0 x1 x2 x3 x4 x5 x6 x7 x8 HOW HW2
  generalize W2.heap.size = cb at HC3 HCN ⊢
  obtain ⟨x0, _⟩ := (en_cells HB3.out).1
  obtain ⟨y0, y1, y2, y3, y4, y5, y6⟩ := call_cells HC3.out
  go_wp2_with fail
  refine (put_new base v bs [2 * a, kd, tp] W3 HO3.out (by have := HL.out.2.2.2.2.2; have := HW3.out.size; omega) (by intro x hx; simp at hx; have := HL.out.1; omega) (by have := HL.out.2.2.2.2.1; simp; omega) _ 3 (by simp [u64s]) rfl).mono ?_; rintro r w4 ⟨v4, rfl, hr⟩
  have hc4 := HC3.out.chg hr.chg (fun e => by have h1 := HNE.out _ e; have h2 := HCN.out; omega)
  have HC4 := Lib.hid hc4
  have HR4 := Lib.hid (hr.from HW3.out)
  have HN4 := Lib.hid (fun j (h : v4.ownBlock = some j) => (show j ≠ cb from by
    rcases hr.blk with e | ⟨i, h1, h2⟩
    · have h1 := HNE.out j (by rw [← e]; exact h); have h2 := HCN.out; omega
    · rw [h] at h1; injection h1 with h1; have := HC3.out.lt; omega))
  clear hr hc4 y0 y1 y2 y3 y4 y5 y6 x0
  obtain ⟨y0, y1, y2, y3, y4, y5, y6⟩ := call_cells HC4.out
  have HBW : Hid (base ≤ w4.heap.size) := Lib.hid (by have := HL.out.2.2.2.2.2; have := HR4.out.chg.size; omega)
  have hl4 : (bs ++ putL [2 * a, kd, tp]).length ≤ 549755813888 + 30 := by
    have h1 := putL_len [2 * a, kd, tp] (by intro x hx; simp at hx; have := HL.out.1; omega)
    have h2 := HL.out.2.2.2.2.1
    simp only [List.length_append]; simp at h1; omega
  have HL4 := Lib.hid hl4
  clear hl4
  go_upto_region 8 with fail
  refine wp_region_held_drew (S := (fun W => W.cell? ⟨cb, 4, none⟩ = some (.int .i64 (md : Nat)) ∧ W.cell? ⟨cb, 5, none⟩ = some (.string tx))) (by kernel_rfl) (⟨y4, y5⟩) (fun hH0 => ?_)
  refine take_first 0 (some 37) ?_ rfl rfl (by kernel_rfl) (by kernel_rfl) (by kernel_rfl) (fun _ _ _ h => h) rfl ?hy hH0 ?_
  case hy => (intro w0 hS0; (try dsimp only at hS0); (try go_simp); try with_reducible rfl)
  try simp only [Act.put, List.setIfInBounds_toArray, List.set_cons_zero, List.set_cons_succ]
  refine take_first 1 (some 38) ?_ rfl rfl (by kernel_rfl) (by kernel_rfl) (by kernel_rfl) (fun _ _ _ h => h) rfl ?hy hH0 ?_
  case hy => (intro w0 hS0; (try dsimp only at hS0); (try go_simp); try with_reducible rfl)
  try simp only [Act.put, List.setIfInBounds_toArray, List.set_cons_zero, List.set_cons_succ]
  refine take_first 2 (some 39) ?_ rfl rfl (by kernel_rfl) (by kernel_rfl) (by kernel_rfl) (fun _ _ _ h => h) rfl ?hy hH0 ?_
  case hy => (intro w0 hS0; (try dsimp only at hS0); (try go_simp); try with_reducible rfl)
  try simp only [Act.put, List.setIfInBounds_toArray, List.set_cons_zero, List.set_cons_succ]
  refine take_first 3 (some 40) ?_ rfl rfl (by kernel_rfl) (by kernel_rfl) (by kernel_rfl) (fun _ _ _ h => h) rfl ?hy hH0 ?_
  case hy => (intro w0 hS0; (try dsimp only at hS0); (try go_simp); try with_reducible rfl)
  try simp only [Act.put, List.setIfInBounds_toArray, List.set_cons_zero, List.set_cons_succ]
  refine take_first 4 (some 41) ?_ rfl rfl (by kernel_rfl) (by kernel_rfl) (by kernel_rfl) (fun _ _ _ h => h) rfl ?hy hH0 ?_
  case hy => (intro w0 hS0; (try dsimp only at hS0); (try go_simp); try with_reducible rfl)
  try simp only [Act.put, List.setIfInBounds_toArray, List.set_cons_zero, List.set_cons_succ]
  refine take_first 5 (some 42) ?_ rfl rfl (by kernel_rfl) (by kernel_rfl) (by kernel_rfl) (fun _ _ _ h => h) rfl ?hy hH0 ?_
  case hy => (intro w0 hS0; (try dsimp only at hS0); (try go_simp); try with_reducible rfl)
  try simp only [Act.put, List.setIfInBounds_toArray, List.set_cons_zero, List.set_cons_succ]
  refine take_first 6 (some 43) ?_ rfl rfl (by kernel_rfl) (by kernel_rfl) (by kernel_rfl) (fun _ _ _ h => h) rfl ?hy hH0 ?_
  case hy => (intro w0 hS0; (try dsimp only at hS0); (try go_simp); try with_reducible rfl)
  try simp only [Act.put, List.setIfInBounds_toArray, List.set_cons_zero, List.set_cons_succ]
  refine take_first 7 (some 44) ?_ rfl rfl (by kernel_rfl) (by kernel_rfl) (by kernel_rfl) (fun _ _ _ h => h) rfl ?hy hH0 ?_
  case hy => (intro w0 hS0; (try dsimp only at hS0); (try go_simp); try with_reducible rfl)
  try simp only [Act.put, List.setIfInBounds_toArray, List.set_cons_zero, List.set_cons_succ]
  refine take_first 10 (some 47) ?_ rfl rfl (by kernel_rfl) (by kernel_rfl) (by kernel_rfl) (fun _ _ _ h => h) rfl ?hy hH0 ?_
  case hy => (intro w0 hS0; (try dsimp only at hS0); (try go_simp); try with_reducible rfl)
  try simp only [Act.put, List.setIfInBounds_toArray, List.set_cons_zero, List.set_cons_succ]
  refine take_first 11 (some 48) ?_ rfl rfl (by kernel_rfl) (by kernel_rfl) (by kernel_rfl) (fun _ _ _ h => h) rfl ?hy hH0 ?_
  case hy => (intro w0 hS0; (try dsimp only at hS0); (try go_simp); try with_reducible rfl)
  try simp only [Act.put, List.setIfInBounds_toArray, List.set_cons_zero, List.set_cons_succ]
  refine wpAnyH_ready (rs := [8]) (by kernel_rfl) (by simp) (AllReadyH.cons rfl (fun K hK => ?_) AllReadyH.nil)
  go_simp
  refine hK.out _ _ (⟨kalloc _ (hH0).1, kalloc _ (hH0).2⟩) (fun hH1 => ?_)
  clear hK
  try simp only [Act.put, List.setIfInBounds_toArray, List.set_cons_zero, List.set_cons_succ]
  refine wpAnyH_ready (rs := [9]) (by kernel_rfl) (by simp) (AllReadyH.cons rfl (fun K hK => ?_) AllReadyH.nil)
  go_simp
  refine (put_new base v4 (bs ++ putL [2 * a, kd, tp]) [md, tx.size] w4.drew HR4.out.own HBW.out (by intro x hx; simp at hx; have h3 := HL.out.2.2.2.1; omega) (by have := HL4.out; simp at this ⊢; omega) _ 2 (by simp [u64s]; exact ⟨wrap_small md (by omega), wrap_small tx.size (by have := HL.out.2.2.2.1; omega)⟩) rfl).mono ?_; rintro r w5 ⟨v5, rfl, hr⟩
  have HS5 : Hid (w5.cell? ⟨cb, 4, none⟩ = some (.int .i64 (md : Nat)) ∧ w5.cell? ⟨cb, 5, none⟩ = some (.string tx)) := Lib.hid ⟨hr.chg.cell (HC4.out.cell 4) (fun e => HN4.out _ e rfl), hr.chg.cell (HC4.out.cell 5) (fun e => HN4.out _ e rfl)⟩
  have HN5 := Lib.hid (fun j (h : v5.ownBlock = some j) => (show j ≠ cb from by
    rcases hr.blk with e | ⟨i, h1, h2⟩
    · exact HN4.out j (by rw [← e]; exact h)
    · rw [h] at h1; injection h1 with h1; have h3 := HC4.out.lt; simp at h2; omega))
  have HR5 := Lib.hid (HR4.out.trans (hr.from (Below.refl _ w4).drew))
  clear hr
  have hl5 : (bs ++ putL [2 * a, kd, tp] ++ putL [md, tx.size]).length ≤ 549755813888 + 50 := by
    have h1 := putL_len [md, tx.size] (by intro x hx; simp at hx; have h3 := HL.out.2.2.2.1; omega)
    have h2 := HL4.out
    rw [List.length_append]; simp at h1 h2 ⊢; omega
  obtain ⟨v6, w6, hrun, hr6⟩ := str_run w5 base v5 (bs ++ putL [2 * a, kd, tp] ++ putL [md, tx.size]) tx HR5.out.own (by have := HBW.out; have := HR5.out.chg.size; have := HL.out.2.2.2.2.2; omega) (by have := HL.out.2.2.2.1; omega)
  have HS6 : Hid (w6.cell? ⟨cb, 4, none⟩ = some (.int .i64 (md : Nat)) ∧ w6.cell? ⟨cb, 5, none⟩ = some (.string tx)) := Lib.hid ⟨hr6.chg.cell HS5.out.1 (fun e => HN5.out _ e rfl), hr6.chg.cell HS5.out.2 (fun e => HN5.out _ e rfl)⟩
  have HR6 := Lib.hid (HR5.out.trans hr6)
  clear hl5 hr6
  refine hK.out _ _ HS5.out (fun hH2 => ?_)
  clear hK
  clear hH1
  try simp only [Act.put, List.setIfInBounds_toArray, List.set_cons_zero, List.set_cons_succ]
  refine wpAnyH_ready (rs := [12]) (by kernel_rfl) (by simp) (AllReadyH.cons rfl (fun K hK => ?_) AllReadyH.nil)
  try rw [if_pos (by kernel_rfl)]
  refine oper_append2 (.tmp 46) (.tmp 48) 41 9 rfl rfl rfl hrun ?_
  simp only [Act.put, List.setIfInBounds_toArray, List.set_cons_zero, List.set_cons_succ]
  refine hK.out _ _ HS6.out (fun hH3 => ?_)
  clear hK
  clear hH2
  try simp only [Act.put, List.setIfInBounds_toArray, List.set_cons_zero, List.set_cons_succ]
  refine take_first 13 (some 1) ?_ rfl rfl (by kernel_rfl) (by kernel_rfl) (by kernel_rfl) (fun _ _ _ h => h) rfl ?hy hH3 ?_
  case hy => (intro w0 hS0; (try dsimp only at hS0); (try go_simp); try with_reducible rfl)
  try simp only [Act.put, List.setIfInBounds_toArray, List.set_cons_zero, List.set_cons_succ]
  refine wpAnyH_done (by kernel_rfl) ?_ _
  clear y0 y1 y2 y3 y4 y5 y6
  go_wp2
  go_ret
  exact ⟨v6, rfl, by rw [HP.out, ← List.append_assoc, ← List.append_assoc]; exact HR6.out⟩

set_option maxRecDepth 100000 in
set_option maxHeartbeats 4000000 in
theorem lay_pick (e : En) (a kd tp gk gn md ps : Nat) (tx : ByteArray) (base : Nat) (v : Value) (bs : List Nat) (w : World) (hcl : e.clean = En.mk a true kd tp gk gn md tx ps) (ha : a ≤ 63) (hkd : True) (htp : tp ≤ 3) (hgk : gk ≤ 7) (hmd : md ≤ 2) (htx : tx.size ≤ 64) (hgn : gn < 18446744073709551616) (hps : ps < 18446744073709551616)
    (hown : w.ownsRow base 5 1 v bs.length (u8s bs)) (hbase : base ≤ w.heap.size) (hlen : bs.length ≤ 549755813888) :
    Calls Try.prog 27 #[e.val, v] w fun r w' => ∃ v', r = .returned v' ∧ BRow w w' base v v' (bs ++ putE (En.mk a true kd tp gk gn md tx ps)) := by
  have HCL := fun W => Lib.hid (clean_calls e W)
  simp only [hcl] at HCL
  have HL := Lib.hid (And.intro hkd (And.intro hgn (And.intro hps (And.intro htx (And.intro hlen hbase)))))
  have HO := Lib.hid hown
  have HP : Hid (putE (En.mk a true kd tp gk gn md tx ps) = putL [2 * a + 1]) := Lib.hid (by unfold putE; simp []; try rfl)
  obtain ⟨th', pk', kd', tp', gk', gn', md', tx', ps'⟩ := e
  clear hcl hkd hgn hps htx hlen hown
  unfold En.val at *
  dsimp only at *
  go_enter Try.func27, Try.ntmps27
  go_wp2_with fail
  refine (HCL _).out.mono ?_; rintro r w1 ⟨rfl, hb1⟩
  have hbl := (Blk.new w 34 [.int .i64 th', .bool pk', .int .i64 kd', .int .i64 tp', .int .i64 gk', .int .u64 gn', .int .i64 md', .string tx', .int .u64 ps']).chg (chg_of_below (fun _ => False) hb1) (fun h => h)
  obtain ⟨⟨x0, x1, x2, x3, x4, x5, x6, x7, x8⟩, z0, z1, z2, z3, z4, z5, z6, z7, z8⟩ := en_cells hbl
  have HB1 := Lib.hid hb1
  clear hb1 hbl
  go_upto_region 2 with fail
  obtain ⟨W2, hW2, hb2, hw2, hl2⟩ := lay_start HB1.out (.int .i64 (a : Nat)) (.bool true) (.int .i64 (kd : Nat)) (.int .i64 (tp : Nat)) (.int .i64 (gk : Nat)) (.int .u64 (gn : Nat)) (.int .i64 (md : Nat)) (.string tx) (.int .u64 (ps : Nat))
  rw [← hW2]
  clear hW2 x0 x1 x2 x3 x4 x5 x6 x7 x8 z0 z1 z2 z3 z4 z5 z6 z7 z8
  have HW2 := Lib.hid (And.intro hb2 (And.intro hw2 hl2))
  obtain ⟨⟨x0, x1, x2, x3, x4, x5, x6, x7, x8⟩, _⟩ := en_cells hb2
  clear hb2 hw2 hl2 HB1
  have HOW := Lib.hid (own_below HO.out HW2.out.2.1)
  have HNE := Lib.hid (fun j (h : v.ownBlock = some j) => (HO.out.lt j h).2)
  go_wp2_with fail
  refine (put_new base v bs [2 * a + 1] W2 HOW.out (by have := HL.out.2.2.2.2.2; have := HW2.out.2.1.size; omega) (by intro x hx; simp at hx; omega) (by have := HL.out.2.2.2.2.1; simp; omega) _ 1 (by simp [u64s]) rfl).mono ?_; rintro r w3 ⟨v3, rfl, hr⟩
  have HR := Lib.hid hr
  clear hr
  go_wp2
  go_ret
  exact ⟨v3, rfl, by rw [HP.out]; exact HR.out.from HW2.out.2.1⟩

set_option maxRecDepth 100000 in
set_option maxHeartbeats 4000000 in
theorem lay_1 (e : En) (a kd tp gk gn md ps : Nat) (tx : ByteArray) (base : Nat) (v : Value) (bs : List Nat) (w : World) (hcl : e.clean = En.mk a false kd tp gk gn md tx ps) (ha : a ≤ 63) (hkd : kd = 1) (htp : tp ≤ 3) (hgk : gk ≤ 7) (hmd : md ≤ 2) (htx : tx.size ≤ 64) (hgn : gn < 18446744073709551616) (hps : ps < 18446744073709551616)
    (hown : w.ownsRow base 5 1 v bs.length (u8s bs)) (hbase : base ≤ w.heap.size) (hlen : bs.length ≤ 549755813888) :
    Calls Try.prog 27 #[e.val, v] w fun r w' => ∃ v', r = .returned v' ∧ BRow w w' base v v' (bs ++ putE (En.mk a false kd tp gk gn md tx ps)) := by
  have HCL := fun W => Lib.hid (clean_calls e W)
  simp only [hcl] at HCL
  have HL := Lib.hid (And.intro hkd (And.intro hgn (And.intro hps (And.intro htx (And.intro hlen hbase)))))
  have HO := Lib.hid hown
  have HP : Hid (putE (En.mk a false kd tp gk gn md tx ps) = putL [2 * a, kd, tp]) := Lib.hid (by unfold putE; simp [hkd]; try rfl)
  have t_0 : (((kd : Nat) : Int) == 0) = false := by rw [beq_eq_false_iff_ne]; omega
  have t_2 : (((kd : Nat) : Int) == 2) = false := by rw [beq_eq_false_iff_ne]; omega
  have t_3 : (((kd : Nat) : Int) == 3) = false := by rw [beq_eq_false_iff_ne]; omega
  have t_4 : (((kd : Nat) : Int) == 4) = false := by rw [beq_eq_false_iff_ne]; omega
  have hkd4 : kd ≤ 4 := by omega
  obtain ⟨th', pk', kd', tp', gk', gn', md', tx', ps'⟩ := e
  clear hcl hkd hgn hps htx hlen hown
  unfold En.val at *
  dsimp only at *
  go_enter Try.func27, Try.ntmps27
  go_wp2_with fail
  refine (HCL _).out.mono ?_; rintro r w1 ⟨rfl, hb1⟩
  have hbl := (Blk.new w 34 [.int .i64 th', .bool pk', .int .i64 kd', .int .i64 tp', .int .i64 gk', .int .u64 gn', .int .i64 md', .string tx', .int .u64 ps']).chg (chg_of_below (fun _ => False) hb1) (fun h => h)
  obtain ⟨⟨x0, x1, x2, x3, x4, x5, x6, x7, x8⟩, z0, z1, z2, z3, z4, z5, z6, z7, z8⟩ := en_cells hbl
  have HB1 := Lib.hid hb1
  clear hb1 hbl
  go_upto_region 2 with fail
  obtain ⟨W2, hW2, hb2, hw2, hl2⟩ := lay_start HB1.out (.int .i64 (a : Nat)) (.bool false) (.int .i64 (kd : Nat)) (.int .i64 (tp : Nat)) (.int .i64 (gk : Nat)) (.int .u64 (gn : Nat)) (.int .i64 (md : Nat)) (.string tx) (.int .u64 (ps : Nat))
  rw [← hW2]
  clear hW2 x0 x1 x2 x3 x4 x5 x6 x7 x8 z0 z1 z2 z3 z4 z5 z6 z7 z8
  have HW2 := Lib.hid (And.intro hb2 (And.intro hw2 hl2))
  obtain ⟨⟨x0, x1, x2, x3, x4, x5, x6, x7, x8⟩, _⟩ := en_cells hb2
  clear hb2 hw2 hl2 HB1
  have HOW := Lib.hid (own_below HO.out HW2.out.2.1)
  have HNE := Lib.hid (fun j (h : v.ownBlock = some j) => (HO.out.lt j h).2)
  go_upto_region 5 with fail
  have HC3 := Lib.hid (Blk.new W2 32 [.int .i64 (kd : Nat), .int .i64 (tp : Nat), .int .i64 (gk : Nat), .int .u64 (gn : Nat), .int .i64 (md : Nat), .string tx, .int .u64 (ps : Nat)])
  have HB3 := Lib.hid (HW2.out.1.alloc (.cells #[.int .i64 (kd : Nat), .int .i64 (tp : Nat), .int .i64 (gk : Nat), .int .u64 (gn : Nat), .int .i64 (md : Nat), .string tx, .int .u64 (ps : Nat)] 32))
  have HW3 := Lib.hid (HW2.out.2.1.trans ((bnew (Below.refl _ W2) (.cells #[.int .i64 (kd : Nat), .int .i64 (tp : Nat), .int .i64 (gk : Nat), .int .u64 (gn : Nat), .int .i64 (md : Nat), .string tx, .int .u64 (ps : Nat)] 32)).mono HW2.out.2.1.size))
  have HO3 := Lib.hid (HOW.out.alloc (.cells #[.int .i64 (kd : Nat), .int .i64 (tp : Nat), .int .i64 (gk : Nat), .int .u64 (gn : Nat), .int .i64 (md : Nat), .string tx, .int .u64 (ps : Nat)] 32))
  have HCN := Lib.hid (HW2.out.2.2)
  generalize W2.alloc (.cells #[.int .i64 (kd : Nat), .int .i64 (tp : Nat), .int .i64 (gk : Nat), .int .u64 (gn : Nat), .int .i64 (md : Nat), .string tx, .int .u64 (ps : Nat)] 32) = W3 at HC3 HB3 HW3 HO3 ⊢
  clear x0 x1 x2 x3 x4 x5 x6 x7 x8 HOW HW2
  generalize W2.heap.size = cb at HC3 HCN ⊢
  obtain ⟨x0, _⟩ := (en_cells HB3.out).1
  obtain ⟨y0, y1, y2, y3, y4, y5, y6⟩ := call_cells HC3.out
  go_wp2_with fail
  refine (put_new base v bs [2 * a, kd, tp] W3 HO3.out (by have := HL.out.2.2.2.2.2; have := HW3.out.size; omega) (by intro x hx; simp at hx; have := HL.out.1; omega) (by have := HL.out.2.2.2.2.1; simp; omega) _ 3 (by simp [u64s]) rfl).mono ?_; rintro r w4 ⟨v4, rfl, hr⟩
  have hc4 := HC3.out.chg hr.chg (fun e => by have h1 := HNE.out _ e; have h2 := HCN.out; omega)
  have HC4 := Lib.hid hc4
  have HR4 := Lib.hid (hr.from HW3.out)
  have HN4 := Lib.hid (fun j (h : v4.ownBlock = some j) => (show j ≠ cb from by
    rcases hr.blk with e | ⟨i, h1, h2⟩
    · have h1 := HNE.out j (by rw [← e]; exact h); have h2 := HCN.out; omega
    · rw [h] at h1; injection h1 with h1; have := HC3.out.lt; omega))
  clear hr hc4 y0 y1 y2 y3 y4 y5 y6 x0
  obtain ⟨y0, y1, y2, y3, y4, y5, y6⟩ := call_cells HC4.out
  have HBW : Hid (base ≤ w4.heap.size) := Lib.hid (by have := HL.out.2.2.2.2.2; have := HR4.out.chg.size; omega)
  have hl4 : (bs ++ putL [2 * a, kd, tp]).length ≤ 549755813888 + 30 := by
    have h1 := putL_len [2 * a, kd, tp] (by intro x hx; simp at hx; have := HL.out.1; omega)
    have h2 := HL.out.2.2.2.2.1
    simp only [List.length_append]; simp at h1; omega
  have HL4 := Lib.hid hl4
  clear hl4
  go_wp2
  go_ret
  exact ⟨v4, rfl, by rw [HP.out]; exact HR4.out⟩

set_option maxRecDepth 100000 in
set_option maxHeartbeats 4000000 in
theorem lay_2 (e : En) (a kd tp gk gn md ps : Nat) (tx : ByteArray) (base : Nat) (v : Value) (bs : List Nat) (w : World) (hcl : e.clean = En.mk a false kd tp gk gn md tx ps) (ha : a ≤ 63) (hkd : kd = 2) (htp : tp ≤ 3) (hgk : gk ≤ 7) (hmd : md ≤ 2) (htx : tx.size ≤ 64) (hgn : gn < 18446744073709551616) (hps : ps < 18446744073709551616)
    (hown : w.ownsRow base 5 1 v bs.length (u8s bs)) (hbase : base ≤ w.heap.size) (hlen : bs.length ≤ 549755813888) :
    Calls Try.prog 27 #[e.val, v] w fun r w' => ∃ v', r = .returned v' ∧ BRow w w' base v v' (bs ++ putE (En.mk a false kd tp gk gn md tx ps)) := by
  have HCL := fun W => Lib.hid (clean_calls e W)
  simp only [hcl] at HCL
  have HL := Lib.hid (And.intro hkd (And.intro hgn (And.intro hps (And.intro htx (And.intro hlen hbase)))))
  have HO := Lib.hid hown
  have HP : Hid (putE (En.mk a false kd tp gk gn md tx ps) = putL [2 * a, kd, tp] ++ putL [gk, gn]) := Lib.hid (by unfold putE; simp [hkd]; try rfl)
  have t_0 : (((kd : Nat) : Int) == 0) = false := by rw [beq_eq_false_iff_ne]; omega
  have t_2 : (((kd : Nat) : Int) == 2) = true := by rw [beq_iff_eq]; omega
  have hkd4 : kd ≤ 4 := by omega
  obtain ⟨th', pk', kd', tp', gk', gn', md', tx', ps'⟩ := e
  clear hcl hkd hgn hps htx hlen hown
  unfold En.val at *
  dsimp only at *
  go_enter Try.func27, Try.ntmps27
  go_wp2_with fail
  refine (HCL _).out.mono ?_; rintro r w1 ⟨rfl, hb1⟩
  have hbl := (Blk.new w 34 [.int .i64 th', .bool pk', .int .i64 kd', .int .i64 tp', .int .i64 gk', .int .u64 gn', .int .i64 md', .string tx', .int .u64 ps']).chg (chg_of_below (fun _ => False) hb1) (fun h => h)
  obtain ⟨⟨x0, x1, x2, x3, x4, x5, x6, x7, x8⟩, z0, z1, z2, z3, z4, z5, z6, z7, z8⟩ := en_cells hbl
  have HB1 := Lib.hid hb1
  clear hb1 hbl
  go_upto_region 2 with fail
  obtain ⟨W2, hW2, hb2, hw2, hl2⟩ := lay_start HB1.out (.int .i64 (a : Nat)) (.bool false) (.int .i64 (kd : Nat)) (.int .i64 (tp : Nat)) (.int .i64 (gk : Nat)) (.int .u64 (gn : Nat)) (.int .i64 (md : Nat)) (.string tx) (.int .u64 (ps : Nat))
  rw [← hW2]
  clear hW2 x0 x1 x2 x3 x4 x5 x6 x7 x8 z0 z1 z2 z3 z4 z5 z6 z7 z8
  have HW2 := Lib.hid (And.intro hb2 (And.intro hw2 hl2))
  obtain ⟨⟨x0, x1, x2, x3, x4, x5, x6, x7, x8⟩, _⟩ := en_cells hb2
  clear hb2 hw2 hl2 HB1
  have HOW := Lib.hid (own_below HO.out HW2.out.2.1)
  have HNE := Lib.hid (fun j (h : v.ownBlock = some j) => (HO.out.lt j h).2)
  go_upto_region 5 with fail
  have HC3 := Lib.hid (Blk.new W2 32 [.int .i64 (kd : Nat), .int .i64 (tp : Nat), .int .i64 (gk : Nat), .int .u64 (gn : Nat), .int .i64 (md : Nat), .string tx, .int .u64 (ps : Nat)])
  have HB3 := Lib.hid (HW2.out.1.alloc (.cells #[.int .i64 (kd : Nat), .int .i64 (tp : Nat), .int .i64 (gk : Nat), .int .u64 (gn : Nat), .int .i64 (md : Nat), .string tx, .int .u64 (ps : Nat)] 32))
  have HW3 := Lib.hid (HW2.out.2.1.trans ((bnew (Below.refl _ W2) (.cells #[.int .i64 (kd : Nat), .int .i64 (tp : Nat), .int .i64 (gk : Nat), .int .u64 (gn : Nat), .int .i64 (md : Nat), .string tx, .int .u64 (ps : Nat)] 32)).mono HW2.out.2.1.size))
  have HO3 := Lib.hid (HOW.out.alloc (.cells #[.int .i64 (kd : Nat), .int .i64 (tp : Nat), .int .i64 (gk : Nat), .int .u64 (gn : Nat), .int .i64 (md : Nat), .string tx, .int .u64 (ps : Nat)] 32))
  have HCN := Lib.hid (HW2.out.2.2)
  generalize W2.alloc (.cells #[.int .i64 (kd : Nat), .int .i64 (tp : Nat), .int .i64 (gk : Nat), .int .u64 (gn : Nat), .int .i64 (md : Nat), .string tx, .int .u64 (ps : Nat)] 32) = W3 at HC3 HB3 HW3 HO3 ⊢
  clear x0 x1 x2 x3 x4 x5 x6 x7 x8 HOW HW2
  generalize W2.heap.size = cb at HC3 HCN ⊢
  obtain ⟨x0, _⟩ := (en_cells HB3.out).1
  obtain ⟨y0, y1, y2, y3, y4, y5, y6⟩ := call_cells HC3.out
  go_wp2_with fail
  refine (put_new base v bs [2 * a, kd, tp] W3 HO3.out (by have := HL.out.2.2.2.2.2; have := HW3.out.size; omega) (by intro x hx; simp at hx; have := HL.out.1; omega) (by have := HL.out.2.2.2.2.1; simp; omega) _ 3 (by simp [u64s]) rfl).mono ?_; rintro r w4 ⟨v4, rfl, hr⟩
  have hc4 := HC3.out.chg hr.chg (fun e => by have h1 := HNE.out _ e; have h2 := HCN.out; omega)
  have HC4 := Lib.hid hc4
  have HR4 := Lib.hid (hr.from HW3.out)
  have HN4 := Lib.hid (fun j (h : v4.ownBlock = some j) => (show j ≠ cb from by
    rcases hr.blk with e | ⟨i, h1, h2⟩
    · have h1 := HNE.out j (by rw [← e]; exact h); have h2 := HCN.out; omega
    · rw [h] at h1; injection h1 with h1; have := HC3.out.lt; omega))
  clear hr hc4 y0 y1 y2 y3 y4 y5 y6 x0
  obtain ⟨y0, y1, y2, y3, y4, y5, y6⟩ := call_cells HC4.out
  have HBW : Hid (base ≤ w4.heap.size) := Lib.hid (by have := HL.out.2.2.2.2.2; have := HR4.out.chg.size; omega)
  have hl4 : (bs ++ putL [2 * a, kd, tp]).length ≤ 549755813888 + 30 := by
    have h1 := putL_len [2 * a, kd, tp] (by intro x hx; simp at hx; have := HL.out.1; omega)
    have h2 := HL.out.2.2.2.2.1
    simp only [List.length_append]; simp at h1; omega
  have HL4 := Lib.hid hl4
  clear hl4
  go_wp2_with fail
  refine (put_new base v4 (bs ++ putL [2 * a, kd, tp]) [gk, gn] w4 HR4.out.own HBW.out (by intro x hx; simp at hx; have h1 := HL.out.2.1; have h2 := HL.out.2.2.1; have h3 := HL.out.2.2.2.1; omega) (by have := HL4.out; simp at this ⊢; omega) _ 2 (by simp [u64s]) rfl).mono ?_; rintro r w5 ⟨v5, rfl, hr⟩
  have HR5 := Lib.hid (HR4.out.trans hr)
  clear hr y0 y1 y2 y3 y4 y5 y6
  go_wp2
  go_ret
  exact ⟨v5, rfl, by rw [HP.out, ← List.append_assoc]; exact HR5.out⟩

set_option maxRecDepth 100000 in
set_option maxHeartbeats 4000000 in
theorem lay_3 (e : En) (a kd tp gk gn md ps : Nat) (tx : ByteArray) (base : Nat) (v : Value) (bs : List Nat) (w : World) (hcl : e.clean = En.mk a false kd tp gk gn md tx ps) (ha : a ≤ 63) (hkd : kd = 3) (htp : tp ≤ 3) (hgk : gk ≤ 7) (hmd : md ≤ 2) (htx : tx.size ≤ 64) (hgn : gn < 18446744073709551616) (hps : ps < 18446744073709551616)
    (hown : w.ownsRow base 5 1 v bs.length (u8s bs)) (hbase : base ≤ w.heap.size) (hlen : bs.length ≤ 549755813888) :
    Calls Try.prog 27 #[e.val, v] w fun r w' => ∃ v', r = .returned v' ∧ BRow w w' base v v' (bs ++ putE (En.mk a false kd tp gk gn md tx ps)) := by
  have HCL := fun W => Lib.hid (clean_calls e W)
  simp only [hcl] at HCL
  have HL := Lib.hid (And.intro hkd (And.intro hgn (And.intro hps (And.intro htx (And.intro hlen hbase)))))
  have HO := Lib.hid hown
  have HP : Hid (putE (En.mk a false kd tp gk gn md tx ps) = putL [2 * a, kd, tp] ++ putL [gk, gn]) := Lib.hid (by unfold putE; simp [hkd]; try rfl)
  have t_0 : (((kd : Nat) : Int) == 0) = false := by rw [beq_eq_false_iff_ne]; omega
  have t_2 : (((kd : Nat) : Int) == 2) = false := by rw [beq_eq_false_iff_ne]; omega
  have t_3 : (((kd : Nat) : Int) == 3) = true := by rw [beq_iff_eq]; omega
  have hkd4 : kd ≤ 4 := by omega
  obtain ⟨th', pk', kd', tp', gk', gn', md', tx', ps'⟩ := e
  clear hcl hkd hgn hps htx hlen hown
  unfold En.val at *
  dsimp only at *
  go_enter Try.func27, Try.ntmps27
  go_wp2_with fail
  refine (HCL _).out.mono ?_; rintro r w1 ⟨rfl, hb1⟩
  have hbl := (Blk.new w 34 [.int .i64 th', .bool pk', .int .i64 kd', .int .i64 tp', .int .i64 gk', .int .u64 gn', .int .i64 md', .string tx', .int .u64 ps']).chg (chg_of_below (fun _ => False) hb1) (fun h => h)
  obtain ⟨⟨x0, x1, x2, x3, x4, x5, x6, x7, x8⟩, z0, z1, z2, z3, z4, z5, z6, z7, z8⟩ := en_cells hbl
  have HB1 := Lib.hid hb1
  clear hb1 hbl
  go_upto_region 2 with fail
  obtain ⟨W2, hW2, hb2, hw2, hl2⟩ := lay_start HB1.out (.int .i64 (a : Nat)) (.bool false) (.int .i64 (kd : Nat)) (.int .i64 (tp : Nat)) (.int .i64 (gk : Nat)) (.int .u64 (gn : Nat)) (.int .i64 (md : Nat)) (.string tx) (.int .u64 (ps : Nat))
  rw [← hW2]
  clear hW2 x0 x1 x2 x3 x4 x5 x6 x7 x8 z0 z1 z2 z3 z4 z5 z6 z7 z8
  have HW2 := Lib.hid (And.intro hb2 (And.intro hw2 hl2))
  obtain ⟨⟨x0, x1, x2, x3, x4, x5, x6, x7, x8⟩, _⟩ := en_cells hb2
  clear hb2 hw2 hl2 HB1
  have HOW := Lib.hid (own_below HO.out HW2.out.2.1)
  have HNE := Lib.hid (fun j (h : v.ownBlock = some j) => (HO.out.lt j h).2)
  go_upto_region 5 with fail
  have HC3 := Lib.hid (Blk.new W2 32 [.int .i64 (kd : Nat), .int .i64 (tp : Nat), .int .i64 (gk : Nat), .int .u64 (gn : Nat), .int .i64 (md : Nat), .string tx, .int .u64 (ps : Nat)])
  have HB3 := Lib.hid (HW2.out.1.alloc (.cells #[.int .i64 (kd : Nat), .int .i64 (tp : Nat), .int .i64 (gk : Nat), .int .u64 (gn : Nat), .int .i64 (md : Nat), .string tx, .int .u64 (ps : Nat)] 32))
  have HW3 := Lib.hid (HW2.out.2.1.trans ((bnew (Below.refl _ W2) (.cells #[.int .i64 (kd : Nat), .int .i64 (tp : Nat), .int .i64 (gk : Nat), .int .u64 (gn : Nat), .int .i64 (md : Nat), .string tx, .int .u64 (ps : Nat)] 32)).mono HW2.out.2.1.size))
  have HO3 := Lib.hid (HOW.out.alloc (.cells #[.int .i64 (kd : Nat), .int .i64 (tp : Nat), .int .i64 (gk : Nat), .int .u64 (gn : Nat), .int .i64 (md : Nat), .string tx, .int .u64 (ps : Nat)] 32))
  have HCN := Lib.hid (HW2.out.2.2)
  generalize W2.alloc (.cells #[.int .i64 (kd : Nat), .int .i64 (tp : Nat), .int .i64 (gk : Nat), .int .u64 (gn : Nat), .int .i64 (md : Nat), .string tx, .int .u64 (ps : Nat)] 32) = W3 at HC3 HB3 HW3 HO3 ⊢
  clear x0 x1 x2 x3 x4 x5 x6 x7 x8 HOW HW2
  generalize W2.heap.size = cb at HC3 HCN ⊢
  obtain ⟨x0, _⟩ := (en_cells HB3.out).1
  obtain ⟨y0, y1, y2, y3, y4, y5, y6⟩ := call_cells HC3.out
  go_wp2_with fail
  refine (put_new base v bs [2 * a, kd, tp] W3 HO3.out (by have := HL.out.2.2.2.2.2; have := HW3.out.size; omega) (by intro x hx; simp at hx; have := HL.out.1; omega) (by have := HL.out.2.2.2.2.1; simp; omega) _ 3 (by simp [u64s]) rfl).mono ?_; rintro r w4 ⟨v4, rfl, hr⟩
  have hc4 := HC3.out.chg hr.chg (fun e => by have h1 := HNE.out _ e; have h2 := HCN.out; omega)
  have HC4 := Lib.hid hc4
  have HR4 := Lib.hid (hr.from HW3.out)
  have HN4 := Lib.hid (fun j (h : v4.ownBlock = some j) => (show j ≠ cb from by
    rcases hr.blk with e | ⟨i, h1, h2⟩
    · have h1 := HNE.out j (by rw [← e]; exact h); have h2 := HCN.out; omega
    · rw [h] at h1; injection h1 with h1; have := HC3.out.lt; omega))
  clear hr hc4 y0 y1 y2 y3 y4 y5 y6 x0
  obtain ⟨y0, y1, y2, y3, y4, y5, y6⟩ := call_cells HC4.out
  have HBW : Hid (base ≤ w4.heap.size) := Lib.hid (by have := HL.out.2.2.2.2.2; have := HR4.out.chg.size; omega)
  have hl4 : (bs ++ putL [2 * a, kd, tp]).length ≤ 549755813888 + 30 := by
    have h1 := putL_len [2 * a, kd, tp] (by intro x hx; simp at hx; have := HL.out.1; omega)
    have h2 := HL.out.2.2.2.2.1
    simp only [List.length_append]; simp at h1; omega
  have HL4 := Lib.hid hl4
  clear hl4
  go_wp2_with fail
  refine (put_new base v4 (bs ++ putL [2 * a, kd, tp]) [gk, gn] w4 HR4.out.own HBW.out (by intro x hx; simp at hx; have h1 := HL.out.2.1; have h2 := HL.out.2.2.1; have h3 := HL.out.2.2.2.1; omega) (by have := HL4.out; simp at this ⊢; omega) _ 2 (by simp [u64s]) rfl).mono ?_; rintro r w5 ⟨v5, rfl, hr⟩
  have HR5 := Lib.hid (HR4.out.trans hr)
  clear hr y0 y1 y2 y3 y4 y5 y6
  go_wp2
  go_ret
  exact ⟨v5, rfl, by rw [HP.out, ← List.append_assoc]; exact HR5.out⟩

set_option maxRecDepth 100000 in
set_option maxHeartbeats 4000000 in
theorem lay_4 (e : En) (a kd tp gk gn md ps : Nat) (tx : ByteArray) (base : Nat) (v : Value) (bs : List Nat) (w : World) (hcl : e.clean = En.mk a false kd tp gk gn md tx ps) (ha : a ≤ 63) (hkd : kd = 4) (htp : tp ≤ 3) (hgk : gk ≤ 7) (hmd : md ≤ 2) (htx : tx.size ≤ 64) (hgn : gn < 18446744073709551616) (hps : ps < 18446744073709551616)
    (hown : w.ownsRow base 5 1 v bs.length (u8s bs)) (hbase : base ≤ w.heap.size) (hlen : bs.length ≤ 549755813888) :
    Calls Try.prog 27 #[e.val, v] w fun r w' => ∃ v', r = .returned v' ∧ BRow w w' base v v' (bs ++ putE (En.mk a false kd tp gk gn md tx ps)) := by
  have HCL := fun W => Lib.hid (clean_calls e W)
  simp only [hcl] at HCL
  have HL := Lib.hid (And.intro hkd (And.intro hgn (And.intro hps (And.intro htx (And.intro hlen hbase)))))
  have HO := Lib.hid hown
  have HP : Hid (putE (En.mk a false kd tp gk gn md tx ps) = putL [2 * a, kd, tp] ++ putL [gk, gn, ps]) := Lib.hid (by unfold putE; simp [hkd]; try rfl)
  have t_0 : (((kd : Nat) : Int) == 0) = false := by rw [beq_eq_false_iff_ne]; omega
  have t_2 : (((kd : Nat) : Int) == 2) = false := by rw [beq_eq_false_iff_ne]; omega
  have t_3 : (((kd : Nat) : Int) == 3) = false := by rw [beq_eq_false_iff_ne]; omega
  have t_4 : (((kd : Nat) : Int) == 4) = true := by rw [beq_iff_eq]; omega
  have hkd4 : kd ≤ 4 := by omega
  obtain ⟨th', pk', kd', tp', gk', gn', md', tx', ps'⟩ := e
  clear hcl hkd hgn hps htx hlen hown
  unfold En.val at *
  dsimp only at *
  go_enter Try.func27, Try.ntmps27
  go_wp2_with fail
  refine (HCL _).out.mono ?_; rintro r w1 ⟨rfl, hb1⟩
  have hbl := (Blk.new w 34 [.int .i64 th', .bool pk', .int .i64 kd', .int .i64 tp', .int .i64 gk', .int .u64 gn', .int .i64 md', .string tx', .int .u64 ps']).chg (chg_of_below (fun _ => False) hb1) (fun h => h)
  obtain ⟨⟨x0, x1, x2, x3, x4, x5, x6, x7, x8⟩, z0, z1, z2, z3, z4, z5, z6, z7, z8⟩ := en_cells hbl
  have HB1 := Lib.hid hb1
  clear hb1 hbl
  go_upto_region 2 with fail
  obtain ⟨W2, hW2, hb2, hw2, hl2⟩ := lay_start HB1.out (.int .i64 (a : Nat)) (.bool false) (.int .i64 (kd : Nat)) (.int .i64 (tp : Nat)) (.int .i64 (gk : Nat)) (.int .u64 (gn : Nat)) (.int .i64 (md : Nat)) (.string tx) (.int .u64 (ps : Nat))
  rw [← hW2]
  clear hW2 x0 x1 x2 x3 x4 x5 x6 x7 x8 z0 z1 z2 z3 z4 z5 z6 z7 z8
  have HW2 := Lib.hid (And.intro hb2 (And.intro hw2 hl2))
  obtain ⟨⟨x0, x1, x2, x3, x4, x5, x6, x7, x8⟩, _⟩ := en_cells hb2
  clear hb2 hw2 hl2 HB1
  have HOW := Lib.hid (own_below HO.out HW2.out.2.1)
  have HNE := Lib.hid (fun j (h : v.ownBlock = some j) => (HO.out.lt j h).2)
  go_upto_region 5 with fail
  have HC3 := Lib.hid (Blk.new W2 32 [.int .i64 (kd : Nat), .int .i64 (tp : Nat), .int .i64 (gk : Nat), .int .u64 (gn : Nat), .int .i64 (md : Nat), .string tx, .int .u64 (ps : Nat)])
  have HB3 := Lib.hid (HW2.out.1.alloc (.cells #[.int .i64 (kd : Nat), .int .i64 (tp : Nat), .int .i64 (gk : Nat), .int .u64 (gn : Nat), .int .i64 (md : Nat), .string tx, .int .u64 (ps : Nat)] 32))
  have HW3 := Lib.hid (HW2.out.2.1.trans ((bnew (Below.refl _ W2) (.cells #[.int .i64 (kd : Nat), .int .i64 (tp : Nat), .int .i64 (gk : Nat), .int .u64 (gn : Nat), .int .i64 (md : Nat), .string tx, .int .u64 (ps : Nat)] 32)).mono HW2.out.2.1.size))
  have HO3 := Lib.hid (HOW.out.alloc (.cells #[.int .i64 (kd : Nat), .int .i64 (tp : Nat), .int .i64 (gk : Nat), .int .u64 (gn : Nat), .int .i64 (md : Nat), .string tx, .int .u64 (ps : Nat)] 32))
  have HCN := Lib.hid (HW2.out.2.2)
  generalize W2.alloc (.cells #[.int .i64 (kd : Nat), .int .i64 (tp : Nat), .int .i64 (gk : Nat), .int .u64 (gn : Nat), .int .i64 (md : Nat), .string tx, .int .u64 (ps : Nat)] 32) = W3 at HC3 HB3 HW3 HO3 ⊢
  clear x0 x1 x2 x3 x4 x5 x6 x7 x8 HOW HW2
  generalize W2.heap.size = cb at HC3 HCN ⊢
  obtain ⟨x0, _⟩ := (en_cells HB3.out).1
  obtain ⟨y0, y1, y2, y3, y4, y5, y6⟩ := call_cells HC3.out
  go_wp2_with fail
  refine (put_new base v bs [2 * a, kd, tp] W3 HO3.out (by have := HL.out.2.2.2.2.2; have := HW3.out.size; omega) (by intro x hx; simp at hx; have := HL.out.1; omega) (by have := HL.out.2.2.2.2.1; simp; omega) _ 3 (by simp [u64s]) rfl).mono ?_; rintro r w4 ⟨v4, rfl, hr⟩
  have hc4 := HC3.out.chg hr.chg (fun e => by have h1 := HNE.out _ e; have h2 := HCN.out; omega)
  have HC4 := Lib.hid hc4
  have HR4 := Lib.hid (hr.from HW3.out)
  have HN4 := Lib.hid (fun j (h : v4.ownBlock = some j) => (show j ≠ cb from by
    rcases hr.blk with e | ⟨i, h1, h2⟩
    · have h1 := HNE.out j (by rw [← e]; exact h); have h2 := HCN.out; omega
    · rw [h] at h1; injection h1 with h1; have := HC3.out.lt; omega))
  clear hr hc4 y0 y1 y2 y3 y4 y5 y6 x0
  obtain ⟨y0, y1, y2, y3, y4, y5, y6⟩ := call_cells HC4.out
  have HBW : Hid (base ≤ w4.heap.size) := Lib.hid (by have := HL.out.2.2.2.2.2; have := HR4.out.chg.size; omega)
  have hl4 : (bs ++ putL [2 * a, kd, tp]).length ≤ 549755813888 + 30 := by
    have h1 := putL_len [2 * a, kd, tp] (by intro x hx; simp at hx; have := HL.out.1; omega)
    have h2 := HL.out.2.2.2.2.1
    simp only [List.length_append]; simp at h1; omega
  have HL4 := Lib.hid hl4
  clear hl4
  go_wp2_with fail
  refine (put_new base v4 (bs ++ putL [2 * a, kd, tp]) [gk, gn, ps] w4 HR4.out.own HBW.out (by intro x hx; simp at hx; have h1 := HL.out.2.1; have h2 := HL.out.2.2.1; have h3 := HL.out.2.2.2.1; omega) (by have := HL4.out; simp at this ⊢; omega) _ 3 (by simp [u64s]) rfl).mono ?_; rintro r w5 ⟨v5, rfl, hr⟩
  have HR5 := Lib.hid (HR4.out.trans hr)
  clear hr y0 y1 y2 y3 y4 y5 y6
  go_wp2
  go_ret
  exact ⟨v5, rfl, by rw [HP.out, ← List.append_assoc]; exact HR5.out⟩

end Go.Proofs.Ytgfingdopelinaa
