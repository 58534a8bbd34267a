/- Setup where it may not be. -/
import Derived.Test.YtobdpieijgiaoaaCurC
import Derived.Deep.RegionWith
namespace Go.Proofs.Ytobdpieijgiaoaa
open Go.RowKit Go.Deep

theorem len_nil (w : World) : Calls Try.prog 26 #[.pointer none] w fun e w' => e = .returned (.int .i64 0) ∧ w = w' := by
  go_enter Try.func26, Try.ntmps26
  go_wp2
  go_ret
  exact ⟨rfl, rfl⟩
theorem setup_nil (A S : Int) (x : Nat) (w : World) :
    Calls Try.prog 10 #[.agg #[.int .i64 A, .int .i64 S], .pointer none, .int .u64 x] w fun e w' => e = .returned (.int .i64 1) ∧ Below w.heap.size w w' := by
  go_enter Try.func10, Try.ntmps10
  go_wp2_with (first | (go_at_call 26; refine (len_nil _).mono ?_; rintro e w' ⟨rfl, rfl⟩))
  go_ret
  exact ⟨rfl, bnew (Below.refl _ _) _⟩

/-- an operation whose guard says no is passed over. -/
theorem skip_first {P : Program} {ops : Array Oper} {Q : Exit → Act → World → Prop} {md : Region.Mode} {S : World → Prop} (i : Nat) {oi : Oper} (d : Option Tmp) {fuel : Nat} {listed : Array Bool} {a : Act} {w : World} (hi : ops[i]? = some oi) (hd : oi.dst = d)
    (hs : Region.noSelect ops = true) (hf : Region.free md ops listed i = true) (hr : (Region.ready md ops listed).contains i = true)
    (hQ : ∀ c a w, Q (.panic c) (a.put d undef) w → Q (.panic c) a w) (hw : Region.wanted oi (yielded ops a.tmps) = false) (hS : S w)
    (h : wpAnyH P md ops Q S fuel (listed.setIfInBounds i true) (a.put d undef) w) : wpAnyH P md ops Q S (fuel + 1) listed a w := by
  subst hd
  exact wpAnyH_take hi hs hf hr hQ (Or.inr ⟨hw, rfl⟩) hS h
theorem take_first {P : Program} {ops : Array Oper} {Q : Exit → Act → World → Prop} {md : Region.Mode} {S : World → Prop} (i : Nat) {oi : Oper} (d : Option Tmp) (v : Value) {fuel : Nat} {listed : Array Bool} {a : Act} {w : World} (hi : ops[i]? = some oi) (hd : oi.dst = d)
    (hs : Region.noSelect ops = true) (hf : Region.free md ops listed i = true) (hr : (Region.ready md ops listed).contains i = true)
    (hQ : ∀ c a w, Q (.panic c) (a.put d v) w → Q (.panic c) a w) (hw : Region.wanted oi (yielded ops a.tmps) = true) (hy : ∀ w, S w → (execOp a.eval oi).run P w = .ok (.value v) w) (hS : S w)
    (h : wpAnyH P md ops Q S fuel (listed.setIfInBounds i true) (a.put d v) w) : wpAnyH P md ops Q S (fuel + 1) listed a w := by
  subst hd
  exact wpAnyH_take hi hs hf hr hQ (Or.inl ⟨hw, hy⟩) hS h
set_option maxHeartbeats 2000000 in
theorem setup_bad1 (A S : Int) (x : Nat) (b bw bb : Nat) (ws : List Nat) (w : World) (hm : MemAt w b bw bb ws) (hr : rightC A S = false) :
    Calls Try.prog 10 #[.agg #[.int .i64 A, .int .i64 S], .pointer (some ⟨b, 0, none⟩), .int .u64 x] w fun e w' => e = .returned (.int .i64 2) ∧ Below w.heap.size w w' := by
  have HR := Lib.hid (fun W => right_b A S W)
  rw [hr] at HR
  have hp0 : ((ws.length : Int) == 0) = false := by rw [beq_eq_false_iff_ne]; have := hm.pos; omega
  obtain ⟨W1, hW1⟩ : ∃ W1, W1 = w.alloc (.cells #[.int .i64 A, .int .i64 S] 23) := ⟨_, rfl⟩
  have hm1 : MemAt W1 b bw bb ws := by rw [hW1]; exact hm.alloc _
  have hbx : Blk W1 w.heap.size 23 [.int .i64 A, .int .i64 S] := by rw [hW1]; exact blk_new w _ _ _ rfl
  have hbel : Below w.heap.size w W1 := by rw [hW1]; exact bnew (Below.refl _ _) _
  have c0 : W1.cell? ⟨w.heap.size, 0, none⟩ = some (.int .i64 A) := hbx.cell 0
  have c1 : W1.cell? ⟨w.heap.size, 1, none⟩ = some (.int .i64 S) := hbx.cell 1
  have HLB : Hid (∀ W : World, Hid (Below W1.heap.size W1 W) → Calls Try.prog 26 #[.pointer (some ⟨b, 0, none⟩)] W fun e w' => e = .returned (.int .i64 ws.length) ∧ Below W.heap.size W w') := Lib.hid (fun W h => (len_calls b bw bb ws W (hm1.below h.out)).mono fun _ _ ⟨g, g'⟩ => ⟨g, by subst g'; exact Below.refl _ _⟩)
  have HB0 : Hid (Below W1.heap.size W1 W1) := Lib.hid (Below.refl _ _)
  have HBEL := Lib.hid hbel
  clear hm hm1 hbx hbel hr
  generalize ws.length = n at *
  go_enter Try.func10, Try.ntmps10
  go_wp2_with fail
  rw [← hW1]
  clear hW1
  refine (HLB.out W1 HB0).mono ?_; rintro e w2 ⟨rfl, hb2⟩
  have c0 := kcell hb2 c0
  have c1 := kcell hb2 c1
  have HB0 : Hid (Below W1.heap.size W1 w2) := Lib.hid hb2
  clear hb2
  go_wp2_with fail
  refine wp_region_held_drew (S := (fun w' => (w'.cell? ⟨w.heap.size, 0, none⟩ = some (.int .i64 A) ∧ w'.cell? ⟨w.heap.size, 1, none⟩ = some (.int .i64 S)) ∧ Hid (Below W1.heap.size W1 w'))) (by kernel_rfl) (⟨⟨c0, c1⟩, HB0.out.drew⟩) (fun hH0 => ?_)
  refine take_first 0 (some 12) ?_ rfl rfl (by kernel_rfl) (by kernel_rfl) (by kernel_rfl) (fun _ _ _ h => h) rfl ?hy hH0 ?_
  case hy => (intro w0 hS0; (try dsimp only at hS0); (try go_simp); try with_reducible rfl)
  try simp only [Act.put, List.setIfInBounds_toArray, List.set_cons_zero, List.set_cons_succ]
  refine wpAnyH_ready (rs := [1]) (by kernel_rfl) (by simp) (AllReadyH.cons rfl (fun K hK => ?_) AllReadyH.nil)
  go_simp
  refine (HR.out _).mono ?_
  rintro e w' ⟨rfl, hb⟩
  refine hK.out _ _ (keepS hH0 hb) (fun hH1 => ?_)
  clear hK
  try simp only [Act.put, List.setIfInBounds_toArray, List.set_cons_zero, List.set_cons_succ]
  refine take_first 2 (some 14) ?_ rfl rfl (by kernel_rfl) (by kernel_rfl) (by kernel_rfl) (fun _ _ _ h => h) rfl ?hy hH1 ?_
  case hy => (intro w0 hS0; (try dsimp only at hS0); (try go_simp); try with_reducible rfl)
  try simp only [Act.put, List.setIfInBounds_toArray, List.set_cons_zero, List.set_cons_succ]
  refine take_first 3 (some 15) ?_ rfl rfl (by kernel_rfl) (by kernel_rfl) (by kernel_rfl) (fun _ _ _ h => h) rfl ?hy hH1 ?_
  case hy => (intro w0 hS0; (try dsimp only at hS0); (try go_simp); try with_reducible rfl)
  try simp only [Act.put, List.setIfInBounds_toArray, List.set_cons_zero, List.set_cons_succ]
  refine skip_first 4 (some 16) rfl rfl (by kernel_rfl) (by kernel_rfl) (by kernel_rfl) (fun _ _ _ h => h) rfl hH1 ?_
  try simp only [Act.put, List.setIfInBounds_toArray, List.set_cons_zero, List.set_cons_succ]
  refine skip_first 5 (some 17) rfl rfl (by kernel_rfl) (by kernel_rfl) (by kernel_rfl) (fun _ _ _ h => h) rfl hH1 ?_
  try simp only [Act.put, List.setIfInBounds_toArray, List.set_cons_zero, List.set_cons_succ]
  refine skip_first 6 (some 18) rfl rfl (by kernel_rfl) (by kernel_rfl) (by kernel_rfl) (fun _ _ _ h => h) rfl hH1 ?_
  try simp only [Act.put, List.setIfInBounds_toArray, List.set_cons_zero, List.set_cons_succ]
  refine skip_first 7 (some 19) rfl rfl (by kernel_rfl) (by kernel_rfl) (by kernel_rfl) (fun _ _ _ h => h) rfl hH1 ?_
  try simp only [Act.put, List.setIfInBounds_toArray, List.set_cons_zero, List.set_cons_succ]
  refine skip_first 8 (some 20) rfl rfl (by kernel_rfl) (by kernel_rfl) (by kernel_rfl) (fun _ _ _ h => h) rfl hH1 ?_
  try simp only [Act.put, List.setIfInBounds_toArray, List.set_cons_zero, List.set_cons_succ]
  refine take_first 9 (some 21) ?_ rfl rfl (by kernel_rfl) (by kernel_rfl) (by kernel_rfl) (fun _ _ _ h => h) rfl ?hy hH1 ?_
  case hy => (intro w0 hS0; (try dsimp only at hS0); (try go_simp); try with_reducible rfl)
  try simp only [Act.put, List.setIfInBounds_toArray, List.set_cons_zero, List.set_cons_succ]
  refine take_first 10 (some 22) ?_ rfl rfl (by kernel_rfl) (by kernel_rfl) (by kernel_rfl) (fun _ _ _ h => h) rfl ?hy hH1 ?_
  case hy => (intro w0 hS0; (try dsimp only at hS0); (try go_simp); try with_reducible rfl)
  try simp only [Act.put, List.setIfInBounds_toArray, List.set_cons_zero, List.set_cons_succ]
  refine skip_first 11 (some 23) rfl rfl (by kernel_rfl) (by kernel_rfl) (by kernel_rfl) (fun _ _ _ h => h) rfl hH1 ?_
  try simp only [Act.put, List.setIfInBounds_toArray, List.set_cons_zero, List.set_cons_succ]
  refine skip_first 12 (some 24) rfl rfl (by kernel_rfl) (by kernel_rfl) (by kernel_rfl) (fun _ _ _ h => h) rfl hH1 ?_
  try simp only [Act.put, List.setIfInBounds_toArray, List.set_cons_zero, List.set_cons_succ]
  refine skip_first 13 (some 25) rfl rfl (by kernel_rfl) (by kernel_rfl) (by kernel_rfl) (fun _ _ _ h => h) rfl hH1 ?_
  try simp only [Act.put, List.setIfInBounds_toArray, List.set_cons_zero, List.set_cons_succ]
  refine take_first 14 (some 26) ?_ rfl rfl (by kernel_rfl) (by kernel_rfl) (by kernel_rfl) (fun _ _ _ h => h) rfl ?hy hH1 ?_
  case hy => (intro w0 hS0; (try dsimp only at hS0); (try go_simp); try with_reducible rfl)
  try simp only [Act.put, List.setIfInBounds_toArray, List.set_cons_zero, List.set_cons_succ]
  refine take_first 15 (some 11) ?_ rfl rfl (by kernel_rfl) (by kernel_rfl) (by kernel_rfl) (fun _ _ _ h => h) rfl ?hy hH1 ?_
  case hy => (intro w0 hS0; (try dsimp only at hS0); (try go_simp); try with_reducible rfl)
  try simp only [Act.put, List.setIfInBounds_toArray, List.set_cons_zero, List.set_cons_succ]
  refine wpAnyH_done (by kernel_rfl) ?_ _
  have HF := hH1.2
  clear hH0 hb hH1
  go_wp2
  go_ret
  exact ⟨rfl, bseq HBEL.out HF.out⟩

set_option maxHeartbeats 2000000 in
theorem setup_bad2 (A S : Int) (x : Nat) (b bw bb : Nat) (ws : List Nat) (w : World) (hm : MemAt w b bw bb ws) (hr : rightC A S = true) (ha : (ws.length : Int) ≤ A) :
    Calls Try.prog 10 #[.agg #[.int .i64 A, .int .i64 S], .pointer (some ⟨b, 0, none⟩), .int .u64 x] w fun e w' => e = .returned (.int .i64 2) ∧ Below w.heap.size w w' := by
  have HR := Lib.hid (fun W => right_b A S W)
  rw [hr] at HR
  have hp0 : ((ws.length : Int) == 0) = false := by rw [beq_eq_false_iff_ne]; have := hm.pos; omega
  have tA : decide ((ws.length : Int) ≤ A) = true := by simp; omega
  clear ha
  obtain ⟨W1, hW1⟩ : ∃ W1, W1 = w.alloc (.cells #[.int .i64 A, .int .i64 S] 23) := ⟨_, rfl⟩
  have hm1 : MemAt W1 b bw bb ws := by rw [hW1]; exact hm.alloc _
  have hbx : Blk W1 w.heap.size 23 [.int .i64 A, .int .i64 S] := by rw [hW1]; exact blk_new w _ _ _ rfl
  have hbel : Below w.heap.size w W1 := by rw [hW1]; exact bnew (Below.refl _ _) _
  have c0 : W1.cell? ⟨w.heap.size, 0, none⟩ = some (.int .i64 A) := hbx.cell 0
  have c1 : W1.cell? ⟨w.heap.size, 1, none⟩ = some (.int .i64 S) := hbx.cell 1
  have HLB : Hid (∀ W : World, Hid (Below W1.heap.size W1 W) → Calls Try.prog 26 #[.pointer (some ⟨b, 0, none⟩)] W fun e w' => e = .returned (.int .i64 ws.length) ∧ Below W.heap.size W w') := Lib.hid (fun W h => (len_calls b bw bb ws W (hm1.below h.out)).mono fun _ _ ⟨g, g'⟩ => ⟨g, by subst g'; exact Below.refl _ _⟩)
  have HB0 : Hid (Below W1.heap.size W1 W1) := Lib.hid (Below.refl _ _)
  have HBEL := Lib.hid hbel
  clear hm hm1 hbx hbel hr
  generalize ws.length = n at *
  go_enter Try.func10, Try.ntmps10
  go_wp2_with fail
  rw [← hW1]
  clear hW1
  refine (HLB.out W1 HB0).mono ?_; rintro e w2 ⟨rfl, hb2⟩
  have c0 := kcell hb2 c0
  have c1 := kcell hb2 c1
  have HB0 : Hid (Below W1.heap.size W1 w2) := Lib.hid hb2
  clear hb2
  go_wp2_with fail
  refine wp_region_held_drew (S := (fun w' => (w'.cell? ⟨w.heap.size, 0, none⟩ = some (.int .i64 A) ∧ w'.cell? ⟨w.heap.size, 1, none⟩ = some (.int .i64 S)) ∧ Hid (Below W1.heap.size W1 w'))) (by kernel_rfl) (⟨⟨c0, c1⟩, HB0.out.drew⟩) (fun hH0 => ?_)
  refine take_first 0 (some 12) ?_ rfl rfl (by kernel_rfl) (by kernel_rfl) (by kernel_rfl) (fun _ _ _ h => h) rfl ?hy hH0 ?_
  case hy => (intro w0 hS0; (try dsimp only at hS0); (try go_simp); try with_reducible rfl)
  try simp only [Act.put, List.setIfInBounds_toArray, List.set_cons_zero, List.set_cons_succ]
  refine wpAnyH_ready (rs := [1]) (by kernel_rfl) (by simp) (AllReadyH.cons rfl (fun K hK => ?_) AllReadyH.nil)
  go_simp
  refine (HR.out _).mono ?_
  rintro e w' ⟨rfl, hb⟩
  refine hK.out _ _ (keepS hH0 hb) (fun hH1 => ?_)
  clear hK
  try simp only [Act.put, List.setIfInBounds_toArray, List.set_cons_zero, List.set_cons_succ]
  refine take_first 2 (some 14) ?_ rfl rfl (by kernel_rfl) (by kernel_rfl) (by kernel_rfl) (fun _ _ _ h => h) rfl ?hy hH1 ?_
  case hy => (intro w0 hS0; (try dsimp only at hS0); (try go_simp); try with_reducible rfl)
  try simp only [Act.put, List.setIfInBounds_toArray, List.set_cons_zero, List.set_cons_succ]
  refine take_first 3 (some 15) ?_ rfl rfl (by kernel_rfl) (by kernel_rfl) (by kernel_rfl) (fun _ _ _ h => h) rfl ?hy hH1 ?_
  case hy => (intro w0 hS0; (try dsimp only at hS0); (try go_simp); try with_reducible rfl)
  try simp only [Act.put, List.setIfInBounds_toArray, List.set_cons_zero, List.set_cons_succ]
  refine take_first 4 (some 16) ?_ rfl rfl (by kernel_rfl) (by kernel_rfl) (by kernel_rfl) (fun _ _ _ h => h) rfl ?hy hH1 ?_
  case hy => (intro w0 hS0; (try dsimp only at hS0); (try go_simp); try with_reducible rfl)
  try simp only [Act.put, List.setIfInBounds_toArray, List.set_cons_zero, List.set_cons_succ]
  refine take_first 5 (some 17) ?_ rfl rfl (by kernel_rfl) (by kernel_rfl) (by kernel_rfl) (fun _ _ _ h => h) rfl ?hy hH1 ?_
  case hy => (intro w0 hS0; (try dsimp only at hS0); (try go_simp); try with_reducible rfl)
  try simp only [Act.put, List.setIfInBounds_toArray, List.set_cons_zero, List.set_cons_succ]
  refine take_first 6 (some 18) ?_ rfl rfl (by kernel_rfl) (by kernel_rfl) (by kernel_rfl) (fun _ _ _ h => h) rfl ?hy hH1 ?_
  case hy => (intro w0 hS0; (try dsimp only at hS0); (try go_simp); try with_reducible rfl)
  try simp only [Act.put, List.setIfInBounds_toArray, List.set_cons_zero, List.set_cons_succ]
  refine wpAnyH_ready (rs := [7]) (by kernel_rfl) (by simp) (AllReadyH.cons rfl (fun K hK => ?_) AllReadyH.nil)
  go_simp
  refine (HLB.out _ (And.right (by assumption))).mono ?_
  rintro e w' ⟨rfl, hb⟩
  refine hK.out _ _ (keepS hH1 hb) (fun hH2 => ?_)
  clear hK
  clear hH1
  try simp only [Act.put, List.setIfInBounds_toArray, List.set_cons_zero, List.set_cons_succ]
  refine take_first 8 (some 20) ?_ rfl rfl (by kernel_rfl) (by kernel_rfl) (by kernel_rfl) (fun _ _ _ h => h) rfl ?hy hH2 ?_
  case hy => (intro w0 hS0; (try dsimp only at hS0); (try go_simp); try with_reducible rfl)
  try simp only [Act.put, List.setIfInBounds_toArray, List.set_cons_zero, List.set_cons_succ]
  refine take_first 9 (some 21) ?_ rfl rfl (by kernel_rfl) (by kernel_rfl) (by kernel_rfl) (fun _ _ _ h => h) rfl ?hy hH2 ?_
  case hy => (intro w0 hS0; (try dsimp only at hS0); (try go_simp); try with_reducible rfl)
  try simp only [Act.put, List.setIfInBounds_toArray, List.set_cons_zero, List.set_cons_succ]
  refine take_first 10 (some 22) ?_ rfl rfl (by kernel_rfl) (by kernel_rfl) (by kernel_rfl) (fun _ _ _ h => h) rfl ?hy hH2 ?_
  case hy => (intro w0 hS0; (try dsimp only at hS0); (try go_simp); try with_reducible rfl)
  try simp only [Act.put, List.setIfInBounds_toArray, List.set_cons_zero, List.set_cons_succ]
  refine skip_first 11 (some 23) rfl rfl (by kernel_rfl) (by kernel_rfl) (by kernel_rfl) (fun _ _ _ h => h) rfl hH2 ?_
  try simp only [Act.put, List.setIfInBounds_toArray, List.set_cons_zero, List.set_cons_succ]
  refine skip_first 12 (some 24) rfl rfl (by kernel_rfl) (by kernel_rfl) (by kernel_rfl) (fun _ _ _ h => h) rfl hH2 ?_
  try simp only [Act.put, List.setIfInBounds_toArray, List.set_cons_zero, List.set_cons_succ]
  refine skip_first 13 (some 25) rfl rfl (by kernel_rfl) (by kernel_rfl) (by kernel_rfl) (fun _ _ _ h => h) rfl hH2 ?_
  try simp only [Act.put, List.setIfInBounds_toArray, List.set_cons_zero, List.set_cons_succ]
  refine take_first 14 (some 26) ?_ rfl rfl (by kernel_rfl) (by kernel_rfl) (by kernel_rfl) (fun _ _ _ h => h) rfl ?hy hH2 ?_
  case hy => (intro w0 hS0; (try dsimp only at hS0); (try go_simp); try with_reducible rfl)
  try simp only [Act.put, List.setIfInBounds_toArray, List.set_cons_zero, List.set_cons_succ]
  refine take_first 15 (some 11) ?_ rfl rfl (by kernel_rfl) (by kernel_rfl) (by kernel_rfl) (fun _ _ _ h => h) rfl ?hy hH2 ?_
  case hy => (intro w0 hS0; (try dsimp only at hS0); (try go_simp); try with_reducible rfl)
  try simp only [Act.put, List.setIfInBounds_toArray, List.set_cons_zero, List.set_cons_succ]
  refine wpAnyH_done (by kernel_rfl) ?_ _
  have HF := hH2.2
  clear hH0 hb hH2
  go_wp2
  go_ret
  exact ⟨rfl, bseq HBEL.out HF.out⟩

set_option maxHeartbeats 2000000 in
theorem setup_bad3 (A S : Int) (x : Nat) (b bw bb : Nat) (ws : List Nat) (w : World) (hm : MemAt w b bw bb ws) (hr : rightC A S = true) (ha : A < ws.length) (hx : 4611686018427387904 ≤ x) :
    Calls Try.prog 10 #[.agg #[.int .i64 A, .int .i64 S], .pointer (some ⟨b, 0, none⟩), .int .u64 x] w fun e w' => e = .returned (.int .i64 2) ∧ Below w.heap.size w w' := by
  have HR := Lib.hid (fun W => right_b A S W)
  rw [hr] at HR
  have hp0 : ((ws.length : Int) == 0) = false := by rw [beq_eq_false_iff_ne]; have := hm.pos; omega
  have tA : decide ((ws.length : Int) ≤ A) = false := by simp; omega
  have tx : ((x : Int) / 4611686018427387904 != 0) = true := by rw [bne_iff_ne]; omega
  clear ha hx
  obtain ⟨W1, hW1⟩ : ∃ W1, W1 = w.alloc (.cells #[.int .i64 A, .int .i64 S] 23) := ⟨_, rfl⟩
  have hm1 : MemAt W1 b bw bb ws := by rw [hW1]; exact hm.alloc _
  have hbx : Blk W1 w.heap.size 23 [.int .i64 A, .int .i64 S] := by rw [hW1]; exact blk_new w _ _ _ rfl
  have hbel : Below w.heap.size w W1 := by rw [hW1]; exact bnew (Below.refl _ _) _
  have c0 : W1.cell? ⟨w.heap.size, 0, none⟩ = some (.int .i64 A) := hbx.cell 0
  have c1 : W1.cell? ⟨w.heap.size, 1, none⟩ = some (.int .i64 S) := hbx.cell 1
  have HLB : Hid (∀ W : World, Hid (Below W1.heap.size W1 W) → Calls Try.prog 26 #[.pointer (some ⟨b, 0, none⟩)] W fun e w' => e = .returned (.int .i64 ws.length) ∧ Below W.heap.size W w') := Lib.hid (fun W h => (len_calls b bw bb ws W (hm1.below h.out)).mono fun _ _ ⟨g, g'⟩ => ⟨g, by subst g'; exact Below.refl _ _⟩)
  have HB0 : Hid (Below W1.heap.size W1 W1) := Lib.hid (Below.refl _ _)
  have HBEL := Lib.hid hbel
  clear hm hm1 hbx hbel hr
  generalize ws.length = n at *
  go_enter Try.func10, Try.ntmps10
  go_wp2_with fail
  rw [← hW1]
  clear hW1
  refine (HLB.out W1 HB0).mono ?_; rintro e w2 ⟨rfl, hb2⟩
  have c0 := kcell hb2 c0
  have c1 := kcell hb2 c1
  have HB0 : Hid (Below W1.heap.size W1 w2) := Lib.hid hb2
  clear hb2
  go_wp2_with fail
  refine wp_region_held_drew (S := (fun w' => (w'.cell? ⟨w.heap.size, 0, none⟩ = some (.int .i64 A) ∧ w'.cell? ⟨w.heap.size, 1, none⟩ = some (.int .i64 S)) ∧ Hid (Below W1.heap.size W1 w'))) (by kernel_rfl) (⟨⟨c0, c1⟩, HB0.out.drew⟩) (fun hH0 => ?_)
  refine take_first 0 (some 12) ?_ rfl rfl (by kernel_rfl) (by kernel_rfl) (by kernel_rfl) (fun _ _ _ h => h) rfl ?hy hH0 ?_
  case hy => (intro w0 hS0; (try dsimp only at hS0); (try go_simp); try with_reducible rfl)
  try simp only [Act.put, List.setIfInBounds_toArray, List.set_cons_zero, List.set_cons_succ]
  refine wpAnyH_ready (rs := [1]) (by kernel_rfl) (by simp) (AllReadyH.cons rfl (fun K hK => ?_) AllReadyH.nil)
  go_simp
  refine (HR.out _).mono ?_
  rintro e w' ⟨rfl, hb⟩
  refine hK.out _ _ (keepS hH0 hb) (fun hH1 => ?_)
  clear hK
  try simp only [Act.put, List.setIfInBounds_toArray, List.set_cons_zero, List.set_cons_succ]
  refine take_first 2 (some 14) ?_ rfl rfl (by kernel_rfl) (by kernel_rfl) (by kernel_rfl) (fun _ _ _ h => h) rfl ?hy hH1 ?_
  case hy => (intro w0 hS0; (try dsimp only at hS0); (try go_simp); try with_reducible rfl)
  try simp only [Act.put, List.setIfInBounds_toArray, List.set_cons_zero, List.set_cons_succ]
  refine take_first 3 (some 15) ?_ rfl rfl (by kernel_rfl) (by kernel_rfl) (by kernel_rfl) (fun _ _ _ h => h) rfl ?hy hH1 ?_
  case hy => (intro w0 hS0; (try dsimp only at hS0); (try go_simp); try with_reducible rfl)
  try simp only [Act.put, List.setIfInBounds_toArray, List.set_cons_zero, List.set_cons_succ]
  refine take_first 4 (some 16) ?_ rfl rfl (by kernel_rfl) (by kernel_rfl) (by kernel_rfl) (fun _ _ _ h => h) rfl ?hy hH1 ?_
  case hy => (intro w0 hS0; (try dsimp only at hS0); (try go_simp); try with_reducible rfl)
  try simp only [Act.put, List.setIfInBounds_toArray, List.set_cons_zero, List.set_cons_succ]
  refine take_first 5 (some 17) ?_ rfl rfl (by kernel_rfl) (by kernel_rfl) (by kernel_rfl) (fun _ _ _ h => h) rfl ?hy hH1 ?_
  case hy => (intro w0 hS0; (try dsimp only at hS0); (try go_simp); try with_reducible rfl)
  try simp only [Act.put, List.setIfInBounds_toArray, List.set_cons_zero, List.set_cons_succ]
  refine take_first 6 (some 18) ?_ rfl rfl (by kernel_rfl) (by kernel_rfl) (by kernel_rfl) (fun _ _ _ h => h) rfl ?hy hH1 ?_
  case hy => (intro w0 hS0; (try dsimp only at hS0); (try go_simp); try with_reducible rfl)
  try simp only [Act.put, List.setIfInBounds_toArray, List.set_cons_zero, List.set_cons_succ]
  refine wpAnyH_ready (rs := [7]) (by kernel_rfl) (by simp) (AllReadyH.cons rfl (fun K hK => ?_) AllReadyH.nil)
  go_simp
  refine (HLB.out _ (And.right (by assumption))).mono ?_
  rintro e w' ⟨rfl, hb⟩
  refine hK.out _ _ (keepS hH1 hb) (fun hH2 => ?_)
  clear hK
  clear hH1
  try simp only [Act.put, List.setIfInBounds_toArray, List.set_cons_zero, List.set_cons_succ]
  refine take_first 8 (some 20) ?_ rfl rfl (by kernel_rfl) (by kernel_rfl) (by kernel_rfl) (fun _ _ _ h => h) rfl ?hy hH2 ?_
  case hy => (intro w0 hS0; (try dsimp only at hS0); (try go_simp); try with_reducible rfl)
  try simp only [Act.put, List.setIfInBounds_toArray, List.set_cons_zero, List.set_cons_succ]
  refine take_first 9 (some 21) ?_ rfl rfl (by kernel_rfl) (by kernel_rfl) (by kernel_rfl) (fun _ _ _ h => h) rfl ?hy hH2 ?_
  case hy => (intro w0 hS0; (try dsimp only at hS0); (try go_simp); try with_reducible rfl)
  try simp only [Act.put, List.setIfInBounds_toArray, List.set_cons_zero, List.set_cons_succ]
  refine take_first 10 (some 22) ?_ rfl rfl (by kernel_rfl) (by kernel_rfl) (by kernel_rfl) (fun _ _ _ h => h) rfl ?hy hH2 ?_
  case hy => (intro w0 hS0; (try dsimp only at hS0); (try go_simp); try with_reducible rfl)
  try simp only [Act.put, List.setIfInBounds_toArray, List.set_cons_zero, List.set_cons_succ]
  refine take_first 11 (some 23) ?_ rfl rfl (by kernel_rfl) (by kernel_rfl) (by kernel_rfl) (fun _ _ _ h => h) rfl ?hy hH2 ?_
  case hy => (intro w0 hS0; (try dsimp only at hS0); (try go_simp); try with_reducible rfl)
  try simp only [Act.put, List.setIfInBounds_toArray, List.set_cons_zero, List.set_cons_succ]
  refine take_first 12 (some 24) ?_ rfl rfl (by kernel_rfl) (by kernel_rfl) (by kernel_rfl) (fun _ _ _ h => h) rfl ?hy hH2 ?_
  case hy => (intro w0 hS0; (try dsimp only at hS0); (try go_simp); try with_reducible rfl)
  try simp only [Act.put, List.setIfInBounds_toArray, List.set_cons_zero, List.set_cons_succ]
  refine take_first 13 (some 25) ?_ rfl rfl (by kernel_rfl) (by kernel_rfl) (by kernel_rfl) (fun _ _ _ h => h) rfl ?hy hH2 ?_
  case hy => (intro w0 hS0; (try dsimp only at hS0); (try go_simp); try with_reducible rfl)
  try simp only [Act.put, List.setIfInBounds_toArray, List.set_cons_zero, List.set_cons_succ]
  refine take_first 14 (some 26) ?_ rfl rfl (by kernel_rfl) (by kernel_rfl) (by kernel_rfl) (fun _ _ _ h => h) rfl ?hy hH2 ?_
  case hy => (intro w0 hS0; (try dsimp only at hS0); (try go_simp); try with_reducible rfl)
  try simp only [Act.put, List.setIfInBounds_toArray, List.set_cons_zero, List.set_cons_succ]
  refine take_first 15 (some 11) ?_ rfl rfl (by kernel_rfl) (by kernel_rfl) (by kernel_rfl) (fun _ _ _ h => h) rfl ?hy hH2 ?_
  case hy => (intro w0 hS0; (try dsimp only at hS0); (try go_simp); try with_reducible rfl)
  try simp only [Act.put, List.setIfInBounds_toArray, List.set_cons_zero, List.set_cons_succ]
  refine wpAnyH_done (by kernel_rfl) ?_ _
  have HF := hH2.2
  clear hH0 hb hH2
  go_wp2
  go_ret
  exact ⟨rfl, bseq HBEL.out HF.out⟩

end Go.Proofs.Ytobdpieijgiaoaa
