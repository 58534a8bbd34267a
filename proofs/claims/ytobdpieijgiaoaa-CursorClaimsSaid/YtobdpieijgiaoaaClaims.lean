/- the walk of CursorClaims. -/
import Derived.Test.YtobdpieijgiaoaaClaimsS
import Derived.Test.YtobdpieijgiaoaaTells
import Derived.StillTailTactics
import Derived.Carry
namespace Go.Proofs.Ytobdpieijgiaoaa
open Go.RowKit Go.Deep

theorem num_cell {w : World} {A : Option Addr} {len cap : Nat} {l : List (List Int)} (h : RowsAt w [.i64] A len cap l) {k : Nat} (hk : k < len) :
    ∃ b off : Nat, ∃ x : Int, A = some ⟨b, off, none⟩ ∧ w.cell? ⟨b, off + k, none⟩ = some (.int .i64 x) := by
  obtain ⟨h1, h2, h3, h4, h5⟩ := h
  obtain ⟨b, off, rfl, hc⟩ := h5 (by omega)
  have hz := h4 (l.getD k []) (by have : k < l.length := by omega
                                  simp [List.getD, this])
  match hl : l.getD k [], hz with
  | [x], _ =>
    have c0 := hc k hk 0 (.int .i64 x) (by rw [hl]; rfl)
    exact ⟨b, off, x, rfl, by simpa using c0⟩

theorem claims_start {W w : World} {s b bw bb : Nat} (h : Sys W w W.heap.size (0 : Nat) (s : Nat) b bw bb [0, 0, 0]) :
    ClSt W (((w.alloc (Obj.cells #[Value.pointer none, Value.pointer none, Value.pointer none, Value.pointer none] 45)).alloc (Obj.cells #[Value.int .i64 0, Value.int .i64 0, Value.int .i64 0, Value.int .i64 0] 46)).alloc (Obj.map #[] 0))
      W.heap.size s b bw bb w.heap.size (w.heap.size + 1) (w.heap.size + 1 + 1) 0 0 0 0 [none, none, none, none] [0, 0, 0, 0] := by
  obtain ⟨l0, l1, l2, l3⟩ := h.lts
  have hz := h.below.size
  have b1 := blk_new w 45 #[Value.pointer none, Value.pointer none, Value.pointer none, Value.pointer none] _ rfl
  have b2 := blk_new (w.alloc (Obj.cells #[Value.pointer none, Value.pointer none, Value.pointer none, Value.pointer none] 45)) 46 #[Value.int .i64 0, Value.int .i64 0, Value.int .i64 0, Value.int .i64 0] _ rfl
  have b3 := got_made ((w.alloc (Obj.cells #[Value.pointer none, Value.pointer none, Value.pointer none, Value.pointer none] 45)).alloc (Obj.cells #[Value.int .i64 0, Value.int .i64 0, Value.int .i64 0, Value.int .i64 0] 46))
  simp only [World.size_alloc] at b2 b3
  refine ⟨((h.alloc _).alloc _).alloc _, ⟨by omega, by omega, by omega, by omega, by omega, by omega, by omega, by omega, by omega, by omega, by omega, by omega, by omega, by omega, by omega, by omega, by omega, by omega⟩, (b1.alloc _).alloc _, b2.alloc _, b3, rfl, rfl, ?_, ?_, Nat.le_refl _, Nat.le_refl _⟩
  · intro t bo bwd o ht
    match t with
    | 0 | 1 | 2 | 3 => simp at ht
    | t + 4 => simp at ht
  · intro t u bo bwd o bo' bwd' o' _ ht _
    match t with
    | 0 | 1 | 2 | 3 => simp at ht
    | t + 4 => simp at ht

theorem take_first {P : Program} {ops : Array Oper} {Q : Exit → Act → World → Prop} {md : Region.Mode} {S : World → Prop} (i : Nat) {oi : Oper} (d : Option Tmp) (v : Value) {fuel : Nat} {listed : Array Bool} {a : Act} {w : World} (hi : ops[i]? = some oi) (hd : oi.dst = d)
    (hs : Region.noSelect ops = true) (hf : Region.free md ops listed i = true) (hr : (Region.ready md ops listed).contains i = true)
    (hQ : ∀ c a w, Q (.panic c) (a.put d v) w → Q (.panic c) a w) (hw : Region.wanted oi (yielded ops a.tmps) = true) (hy : ∀ w, S w → (execOp a.eval oi).run P w = .ok (.value v) w) (hS : S w)
    (h : wpAnyH P md ops Q S fuel (listed.setIfInBounds i true) (a.put d v) w) : wpAnyH P md ops Q S (fuel + 1) listed a w := by
  subst hd
  exact wpAnyH_take hi hs hf hr hQ (Or.inl ⟨hw, hy⟩) hS h
theorem keepC {W W' : World} {p q t : Nat} {s m : Nat} (h : W.cell? ⟨p, 0, none⟩ = some (.int .i64 0) ∧ W.cell? ⟨p, 1, none⟩ = some (.int .i64 s) ∧ W.cell? ⟨q, t, none⟩ = some (.int .i64 m)) (hb : Below W.heap.size W W') :
    W'.cell? ⟨p, 0, none⟩ = some (.int .i64 0) ∧ W'.cell? ⟨p, 1, none⟩ = some (.int .i64 s) ∧ W'.cell? ⟨q, t, none⟩ = some (.int .i64 m) :=
  ⟨kcell hb h.1, kcell hb h.2.1, kcell hb h.2.2⟩
theorem many_at {many : List Nat} {t m : Nat} (hl : many.length = 4) (ht : t < 4) (hm : many.getD t 0 = m) : (intVals (many.map fun x : Nat => (x : Int)))[t]? = some (.int .i64 m) := by
  have h : t < many.length := by omega
  simp [intVals, h]
  have : many[t] = m := by simpa [List.getD, h] using hm
  rw [this]

set_option maxHeartbeats 4000000 in
set_option maxRecDepth 100000 in
theorem cursorClaims_walk (n : Int) (_hn : (Lit.int .i64 n).wf = true) (A : Option Addr) (len cap : Nat) (l : List (List Int)) (A' : Option Addr) (len' cap' : Nat) (l' : List (List Int)) (W : World) (hl : RowsAt W [.i64, .i64] A len cap l) (hl' : RowsAt W [.i64] A' len' cap' l') :
    Calls Try.prog 5 #[.int .i64 n, .slice A len cap, .slice A' len' cap'] W fun e w' => e = .returned (.bool true) ∧ Below W.heap.size W w' := by
  have hlen : len ≤ 9223372036854775807 := by have := hl.2.1; have := hl.2.2.1; omega
  have hlen' : len' ≤ 9223372036854775807 := by have := hl'.2.1; have := hl'.2.2.1; omega
  have HLR := Lib.hid hl
  have HLP := Lib.hid hl'
  have hr := right_size n
  have hsz := sizeN_of n
  have HSZ := fun w => Lib.hid (size_calls n w)
  generalize sizeN n = s at *
  have HR := Lib.hid hr
  have hs8 : s ≤ 8 ∧ 1 ≤ s := by omega
  clear hl hl' hr hsz
  obtain ⟨W1, hW⟩ : ∃ W1, W1 = W.alloc (.cells #[.int .i64 0, .int .i64 (s : Int)] 23) := ⟨_, rfl⟩
  have hbox : Blk W1 W.heap.size 23 [.int .i64 0, .int .i64 (s : Int)] := by rw [hW]; exact blk_new W _ _ _ rfl
  have hbe : Below W.heap.size W W1 := by rw [hW]; exact bnew (Below.refl _ _) _
  have HB := Lib.hid (And.intro hbox hbe)
  clear hbox hbe
  go_enter Try.func5, Try.ntmps5
  go_wp2_with fail
  refine (HSZ W).out.mono ?_; rintro e w' ⟨rfl, rfl⟩
  go_wp2_with fail
  rw [← hW]
  clear hW
  refine (new_calls 3 W1 (by decide) (by decide)).mono ?_; rintro e w1 ⟨b, bw, bb, rfl, hm, h1, h2, h3, hb⟩
  have hs := sys_new HB.out.2 (Nat.le_refl _) HB.out.1 hm h1 h2 h3 hb
  have H1 : Hid (Sys W w1 W.heap.size (0 : Nat) (s : Nat) b bw bb [0, 0, 0]) := Lib.hid hs
  have x0 : w1.cell? ⟨W.heap.size, 0, none⟩ = some (.int .i64 0) := hs.box.cell 0
  have x1 : w1.cell? ⟨W.heap.size, 1, none⟩ = some (.int .i64 s) := hs.box.cell 1
  clear hs hm h1 h2 h3 hb HB
  go_wp2_with fail
  refine (s_setup (x := 0) H1.out HR.out (by decide) (by decide)).mono ?_; rintro e w2 ⟨rfl, hs⟩
  have H2 : Hid (Sys W w2 W.heap.size (0 : Nat) (s : Nat) b bw bb [0, 0, 0]) := Lib.hid hs
  clear hs x0 x1 H1
  have hmk := @run_makeMap Try.prog
  go_wp2_with fail
  have hst := claims_start H2.out
  have hge := H2.out.below.size
  generalize ((w2.alloc _).alloc _).alloc (Obj.map #[] 0) = w3 at hst ⊢
  generalize w2.heap.size = ba at *
  obtain ⟨bn, hbn⟩ : ∃ bn, bn = ba + 1 := ⟨_, rfl⟩
  rw [← hbn] at hst ⊢
  obtain ⟨bm, hbm⟩ : ∃ bm, bm = bn + 1 := ⟨_, rfl⟩
  rw [← hbm] at hst ⊢
  have H3 := Lib.hid hst
  clear hst hbn hbm hge H2 hmk
  go_loopw [13, 14, 15] (fun cv nv i wr => ∃ (k nx w0 w1 w2 : Nat) (slots : List Slot) (many : List Nat), k ≤ len' ∧ k ≤ 250 ∧ nx ≤ len ∧ w0 ≤ 8 * k ∧ cv = .int .i64 w0 ∧ nv = .int .i64 nx ∧ i = .int .i64 k ∧ Hid (ClSt W wr W.heap.size s b bw bb ba bn bm w0 w1 w2 w0 slots many)) (fun _ _ i _ => len' - (intOf i).toNat)
  case atStart => exact ⟨0, 0, 0, 0, 0, _, _, by omega, by omega, by omega, by omega, rfl, rfl, rfl, H3⟩
  case round =>
    obtain ⟨k, nx, w0, w1, w2, slots, many, hk, hk2, hnx, hw0, rfl, rfl, rfl, HI⟩ := hrel
    by_cases hlt : k < len'
    · by_cases h250 : k < 250
      · have t250 : decide ((k : Int) < 250) = true := by simp; omega
        obtain ⟨ba', off', z, rfl, hz⟩ := num_cell (HLP.out.below HI.out.sys.below) hlt
        obtain ⟨t, ht⟩ : ∃ t : Nat, z % 4 = t := ⟨(z % 4).toNat, by omega⟩
        have hand : bits .and .i64 z 3 = (t : Int) := by rw [and3, ht]
        have ht4 : t < 4 := by omega
        obtain ⟨q, hq⟩ : ∃ q : Nat, (z / 4) % 8 = q := ⟨((z / 4) % 8).toNat, by omega⟩
        have hand7 : bits .and .i64 (z / 4) 7 = (q : Int) := by rw [and7, hq]
        have HT4 := Lib.hid ht4
        clear ht hq ht4
        by_cases hq7 : q = 7
        · have tq : ((q : Int) == 7) = true := by subst hq7; rfl
          have hr1 : bits .and .i64 (t : Int) 1 = 0 ∨ bits .and .i64 (t : Int) 1 = 1 := by
            have : bits .and .i64 (t : Int) 1 = (t : Int) % 2 := and_mask (t : Int) 1 (by decide)
            omega
          rcases hr1 with hr1 | hr1
          · go_wp2_with fail
            refine (peek_calls b bw bb [w0, w1, w2] 0 3 wr HI.out.sys.mem (by show 0 < 3; decide) (by decide) (by decide)).mono ?_; rintro e w4 ⟨g, c, he, hcell, _, hb⟩
            obtain rfl : e = .returned (.slice (some ⟨g, 0, none⟩) 3 c) := he
            have f0 : w4.cell? ⟨g, 0, none⟩ = some (.int .u64 w0) := hcell 0 (by show 0 < 3; decide)
            have fj : w4.cell? ⟨g, 1, none⟩ = some (.int .u64 w1) := hcell 1 (by show 1 < 3; decide)
            have H4 := Lib.hid (HI.out.keep hb)
            clear hcell hb
            have hw1 := H4.out.h1
            have hw2 := H4.out.h2
            have wj1 : IntKind.u64.wrap ((w1 : Int) + 1) = ((w1 + 1 : Nat) : Int) := wrap_small (w1 + 1) (by omega)
            by_cases hlw : w1 < w0
            · have tl : decide (w1 < w0) = true := by simp [hlw]
              go_wp2_with fail
              go_still_tail 7, (by kernel_rfl)
              change wpList _ _ _ _ _ w4.drew
              have H5 := Lib.hid (H4.out.keep (Below.refl _ w4).drew)
              go_wp2_with fail
              refine (store_calls b bw bb [w0, w1, w2] 1 (w1 + 1) _ H5.out.sys.mem (by show 1 < 3; decide) (by omega)).mono ?_; rintro e w6 ⟨rfl, hm6, hc6⟩
              have H6 : Hid (ClSt W w6 W.heap.size s b bw bb ba bn bm w0 (w1 + 1) w2 w0 slots many) := Lib.hid (H5.out.words hc6 hm6 (by omega) (by omega) (by omega) (by omega) (by omega))
              clear hm6 hc6
              go_wp2
              go_roundw
              case rel => exact ⟨k + 1, nx, _, _, _, _, _, by omega, by omega, hnx, by omega, rfl, rfl, by go_num, H6⟩
              case measure => simp [intOf]; omega
            · have tl : decide (w1 < w0) = false := by simp; omega
              clear hlw
              go_wp2_with fail
              go_still_tail 7, (by kernel_rfl)
              change wpList _ _ _ _ _ w4.drew
              have H5 := Lib.hid (H4.out.keep (Below.refl _ w4).drew)
              go_wp2
              go_roundw
              case rel => exact ⟨k + 1, nx, _, _, _, _, _, by omega, by omega, hnx, by omega, rfl, rfl, by go_num, H5⟩
              case measure => simp [intOf]; omega
          · go_wp2_with fail
            refine (peek_calls b bw bb [w0, w1, w2] 0 3 wr HI.out.sys.mem (by show 0 < 3; decide) (by decide) (by decide)).mono ?_; rintro e w4 ⟨g, c, he, hcell, _, hb⟩
            obtain rfl : e = .returned (.slice (some ⟨g, 0, none⟩) 3 c) := he
            have f0 : w4.cell? ⟨g, 0, none⟩ = some (.int .u64 w0) := hcell 0 (by show 0 < 3; decide)
            have fj : w4.cell? ⟨g, 2, none⟩ = some (.int .u64 w2) := hcell 2 (by show 2 < 3; decide)
            have H4 := Lib.hid (HI.out.keep hb)
            clear hcell hb
            have hw1 := H4.out.h1
            have hw2 := H4.out.h2
            have wj1 : IntKind.u64.wrap ((w2 : Int) + 1) = ((w2 + 1 : Nat) : Int) := wrap_small (w2 + 1) (by omega)
            by_cases hlw : w2 < w0
            · have tl : decide (w2 < w0) = true := by simp [hlw]
              go_wp2_with fail
              go_still_tail 7, (by kernel_rfl)
              change wpList _ _ _ _ _ w4.drew
              have H5 := Lib.hid (H4.out.keep (Below.refl _ w4).drew)
              go_wp2_with fail
              refine (store_calls b bw bb [w0, w1, w2] 2 (w2 + 1) _ H5.out.sys.mem (by show 2 < 3; decide) (by omega)).mono ?_; rintro e w6 ⟨rfl, hm6, hc6⟩
              have H6 : Hid (ClSt W w6 W.heap.size s b bw bb ba bn bm w0 w1 (w2 + 1) w0 slots many) := Lib.hid (H5.out.words hc6 hm6 (by omega) (by omega) (by omega) (by omega) (by omega))
              clear hm6 hc6
              go_wp2
              go_roundw
              case rel => exact ⟨k + 1, nx, _, _, _, _, _, by omega, by omega, hnx, by omega, rfl, rfl, by go_num, H6⟩
              case measure => simp [intOf]; omega
            · have tl : decide (w2 < w0) = false := by simp; omega
              clear hlw
              go_wp2_with fail
              go_still_tail 7, (by kernel_rfl)
              change wpList _ _ _ _ _ w4.drew
              have H5 := Lib.hid (H4.out.keep (Below.refl _ w4).drew)
              go_wp2
              go_roundw
              case rel => exact ⟨k + 1, nx, _, _, _, _, _, by omega, by omega, hnx, by omega, rfl, rfl, by go_num, H5⟩
              case measure => simp [intOf]; omega
        · have tq : ((q : Int) == 7) = false := by rw [beq_eq_false_iff_ne]; omega
          have htl : t < slots.length := by rw [HI.out.ls]; exact HT4.out
          obtain ⟨sl, hsl⟩ : ∃ sl, slots[t]? = some sl := ⟨_, List.getElem?_eq_getElem htl⟩
          have fcell : wr.cell? ⟨ba, t, none⟩ = some (slotVal sl) := by rw [HI.out.ops.cell t, List.getElem?_map, hsl]; rfl
          have i1 : (t : Int) < 4 := by have := HT4.out; omega
          have i0 : (0 : Int) ≤ (t : Int) := by omega
          have HSL := Lib.hid hsl
          have HS8 := Lib.hid hs8
          clear hsl htl
          cases sl with
          | none =>
            change wr.cell? ⟨ba, t, none⟩ = some (.pointer none) at fcell
            by_cases hnl : nx < len
            · have y1 : wr.cell? ⟨W.heap.size, 1, none⟩ = some (.int .i64 s) := HI.out.sys.box.cell 1
              obtain ⟨bl, ol, z1, z2, rfl, hc0, hc1, _⟩ := ask_cells (HLR.out.below HI.out.sys.below) hnl
              clear hc1
              obtain ⟨d, hd⟩ : ∃ d : Nat, z1 % 8 = d := ⟨(z1 % 8).toNat, by omega⟩
              have hand2 : bits .and .i64 z1 7 = (d : Int) := by rw [and7, hd]
              obtain ⟨m, hm⟩ : ∃ m, 1 + d % s = m := ⟨_, rfl⟩
              have hms : 1 ≤ m ∧ m ≤ s := by have := Nat.mod_lt d (show 0 < s by omega); omega
              have hs00 : ¬ s = 0 := by omega
              have hmi : (1 + (d : Int) % (s : Int)) = (m : Int) := by rw [← hm]; simp
              have HMI := Lib.hid hmi
              have HSUM : Hid (IntKind.i64.wrap (1 + (d : Int).tmod (s : Int)) = (m : Int)) := Lib.hid (by
                rw [show (d : Int).tmod (s : Int) = ((d % s : Nat) : Int) from rfl, IntKind.wrap_i64]; omega)
              have HW64 : Hid (wrap64 (m : Int) = (m : Int)) := Lib.hid (by unfold wrap64; omega)
              have cmn : wr.cell? ⟨bn, t, none⟩ = some (.int .i64 (many.getD t 0 : Nat)) := by
                rw [HI.out.mny.cell t]; exact many_at HI.out.lm HT4.out rfl
              have zmn : wr.frozen? ⟨bn, t, none⟩ = false := HI.out.mny.free t
              have tn : decide (len ≤ nx) = false := by simp; omega
              have HMS := Lib.hid hms
              clear hd hm hmi
              go_wp2_with fail
              go_still_tail 12, (by kernel_rfl)
              change wpList _ _ _ _ _ wr.drew
              clear hand2 hc0
              go_wp2_with fail
              rw [show wrap64 (1 + (d : Int) % (s : Int)) = (m : Int) by rw [HMI.out, HW64.out]]
              have hst4 := (HI.out.number t m HSL.out).keep (Below.refl _ _).drew
              generalize (wr.setCell ⟨bn, t, none⟩ (.int .i64 (m : Int))).drew = w4 at hst4 ⊢
              have H4 := Lib.hid hst4
              have HMT : Hid ((many.set t m).getD t 0 = m) := Lib.hid (by have := HI.out.lm; have := HT4.out; simp [List.getD, show t < many.length by omega])
              have x0 : w4.cell? ⟨W.heap.size, 0, none⟩ = some (.int .i64 0) := hst4.sys.box.cell 0
              have x1 : w4.cell? ⟨W.heap.size, 1, none⟩ = some (.int .i64 s) := hst4.sys.box.cell 1
              have x2 : w4.cell? ⟨bn, t, none⟩ = some (.int .i64 m) := by rw [hst4.mny.cell t]; exact many_at hst4.lm HT4.out HMT.out
              have q4 : w4.cell? ⟨ba, t, none⟩ = some (.pointer none) := by rw [hst4.ops.cell t, List.getElem?_map, HSL.out]; rfl
              have HQ4 := Lib.hid (show w4.cell? ⟨ba, t, none⟩ = some (.pointer none) ∧ w4.frozen? ⟨ba, t, none⟩ = false ∧ ba < w4.heap.size from ⟨q4, hst4.ops.free t, hst4.ops.lt⟩)
              have HS0 : Hid (0 < [1, 2].length → ∃ ad, (some (⟨w4.heap.size, 0, none⟩ : Addr)) = some ad ∧ ∀ j v, (intVals ([1, 2].map fun x : Nat => (x : Int)))[j]? = some v → (w4.drew.alloc (.cells #[.int .i64 1, .int .i64 2] 3)).cell? (ad.add j) = some v) := Lib.hid (fun _ => ⟨_, rfl, fun j v hv => by
                have hbk := blk_new w4.drew 3 #[.int .i64 1, .int .i64 2] [.int .i64 1, .int .i64 2] rfl
                have hbk2 : Blk (w4.drew.alloc (.cells #[.int .i64 1, .int .i64 2] 3)) w4.heap.size 3 [.int .i64 1, .int .i64 2] := hbk
                rw [add_none, hbk2.cell]
                simpa [intVals] using hv⟩)
              clear hst4 q4 cmn zmn fcell y1 HI HMI HSUM HW64
              refine wp_region_held_drew (S := (fun w' => (w'.cell? ⟨W.heap.size, 0, none⟩ = some (.int .i64 0) ∧ w'.cell? ⟨W.heap.size, 1, none⟩ = some (.int .i64 s) ∧ w'.cell? ⟨bn, t, none⟩ = some (.int .i64 m)))) (by kernel_rfl) (⟨x0, x1, x2⟩) (fun hH0 => ?_)
              refine take_first 0 (some 107) ?_ rfl rfl (by kernel_rfl) (by kernel_rfl) (by kernel_rfl) (fun _ _ _ h => h) rfl ?hy hH0 ?_
              case hy => (intro w0 hS0; (try dsimp only at hS0); (try go_simp); try with_reducible rfl)
              try simp only [Act.put, List.setIfInBounds_toArray, List.set_cons_zero, List.set_cons_succ]
              refine take_first 1 (some 108) ?_ rfl rfl (by kernel_rfl) (by kernel_rfl) (by kernel_rfl) (fun _ _ _ h => h) rfl ?hy hH0 ?_
              case hy => (intro w0 hS0; (try dsimp only at hS0); (try go_simp); try with_reducible rfl)
              try simp only [Act.put, List.setIfInBounds_toArray, List.set_cons_zero, List.set_cons_succ]
              refine take_first 2 (some 109) ?_ rfl rfl (by kernel_rfl) (by kernel_rfl) (by kernel_rfl) (fun _ _ _ h => h) rfl ?hy hH0 ?_
              case hy => (intro w0 hS0; (try dsimp only at hS0); (try go_simp); try with_reducible rfl)
              try simp only [Act.put, List.setIfInBounds_toArray, List.set_cons_zero, List.set_cons_succ]
              refine take_first 3 (some 110) ?_ rfl rfl (by kernel_rfl) (by kernel_rfl) (by kernel_rfl) (fun _ _ _ h => h) rfl ?hy hH0 ?_
              case hy => (intro w0 hS0; (try dsimp only at hS0); (try go_simp); try with_reducible rfl)
              try simp only [Act.put, List.setIfInBounds_toArray, List.set_cons_zero, List.set_cons_succ]
              refine take_first 4 (some 111) ?_ rfl rfl (by kernel_rfl) (by kernel_rfl) (by kernel_rfl) (fun _ _ _ h => h) rfl ?hy hH0 ?_
              case hy => (intro w0 hS0; (try dsimp only at hS0); (try go_simp); try with_reducible rfl)
              try simp only [Act.put, List.setIfInBounds_toArray, List.set_cons_zero, List.set_cons_succ]
              refine wpAnyH_ready (rs := [5]) (by kernel_rfl) (by simp) (AllReadyH.cons rfl (fun K hK => ?_) AllReadyH.nil)
              go_simp
              refine hK.out _ _ (keepC hH0 (bnew (Below.refl _ _) _)) (fun hH1 => ?_)
              clear hK
              try simp only [Act.put, List.setIfInBounds_toArray, List.set_cons_zero, List.set_cons_succ]
              refine wpAnyH_ready (rs := [6]) (by kernel_rfl) (by simp) (AllReadyH.cons rfl (fun K hK => ?_) AllReadyH.nil)
              go_simp
              refine (s_claim (m := m) (words := [1, 2]) (some ⟨w4.heap.size, 0, none⟩) 2 (H4.out.sys.drew.alloc _) HR.out HMS.out (by decide) HS0.out).mono ?_; rintro e w5 ⟨bo, bwd, rfl, ho, hs, hap, hge, hg1, hg2, hb⟩
              have H5 := Lib.hid (((H4.out.keep (Below.refl _ _).drew).keep (bnew (Below.refl _ w4.drew) (.cells #[.int .i64 1, .int .i64 2] 3))).fill (t := t) hb ho hg1 hg2 hap.nn HMS.out HMT.out)
              have hb5 : Below w4.heap.size w4 w5 := bseq (bnew (Below.refl _ _).drew (.cells #[.int .i64 1, .int .i64 2] 3)) hb
              have q0 : w5.cell? ⟨ba, t, none⟩ = some (.pointer none) := kcell hb5 HQ4.out.1
              have q1 : w5.frozen? ⟨ba, t, none⟩ = false := (hb5.frozen (p := ⟨ba, t, none⟩) HQ4.out.2.2).trans HQ4.out.2.1
              clear ho hs hap hge hg1 hg2
              refine hK.out _ _ (keepC hH1 hb) (fun hH2 => ?_)
              clear hK
              clear hH1
              try simp only [Act.put, List.setIfInBounds_toArray, List.set_cons_zero, List.set_cons_succ]
              refine take_first 7 (some 114) ?_ rfl rfl (by kernel_rfl) (by kernel_rfl) (by kernel_rfl) (fun _ _ _ h => h) rfl ?hy hH2 ?_
              case hy => (intro w0 hS0; (try dsimp only at hS0); (try go_simp); try with_reducible rfl)
              try simp only [Act.put, List.setIfInBounds_toArray, List.set_cons_zero, List.set_cons_succ]
              refine wpAnyH_ready (rs := [8]) (by kernel_rfl) (by simp) (AllReadyH.cons rfl (fun K hK => ?_) AllReadyH.nil)
              go_simp
              refine hK.out _ _ ⟨H5.out.sys.box.cell 0, H5.out.sys.box.cell 1, (H5.out.mny.cell t).trans (many_at H5.out.lm HT4.out HMT.out)⟩ (fun hH3 => ?_)
              clear hK
              clear hH2
              try simp only [Act.put, List.setIfInBounds_toArray, List.set_cons_zero, List.set_cons_succ]
              refine wpAnyH_done (by kernel_rfl) ?_ _
              have HTS : Hid ((slots.set t (some (bo, bwd, (⟨0, s, m, [1, 2], 0, 0, 0, 0, 0⟩ : NOp))))[t]? = some (some (bo, bwd, ⟨0, s, m, [1, 2], 0, 0, 0, 0, 0⟩))) := Lib.hid (by have := H4.out.ls; have := HT4.out; simp [show t < slots.length by omega])
              have H5c := H5.out
              generalize w5.setCell ⟨ba, t, none⟩ (.pointer (some ⟨bo, 0, none⟩)) = w5b at H5c ⊢
              have fcell : w5b.cell? ⟨ba, t, none⟩ = some (.pointer (some ⟨bo, 0, none⟩)) := by rw [H5c.ops.cell t, List.getElem?_map, HTS.out]; rfl
              clear H5
              have H5 := Lib.hid H5c
              clear H5c hb hb5 q0 q1 x0 x1 x2 hH0 hH3 hms hs00
              obtain ⟨many', hmany⟩ : ∃ m', m' = many.set t m := ⟨_, rfl⟩
              rw [← hmany] at H5
              clear hmany HMT
              generalize (⟨0, s, m, [1, 2], 0, 0, 0, 0, 0⟩ : NOp) = o at *
              generalize slots.set t (some (bo, bwd, o)) = slots at *
              clear HMS
              have hok := H5.out.ok t bo bwd o HTS.out
              have hkk := hok
              have FPT : Hid (∀ w6, Chg (fun j => j = b ∨ j = bw ∨ j = bo) w5b w6 → w6.cell? ⟨ba, t, none⟩ = some (.pointer (some ⟨bo, 0, none⟩))) := Lib.hid (fun w6 hc => by
                have hq := H5.out.ops.chg hc (fun e => e.elim H5.out.blk.d2 (fun e => e.elim H5.out.blk.d3 (fun e => hkk.a1 e.symm)))
                rw [hq.cell t, List.getElem?_map, HTS.out]; rfl)
              have ZPT : Hid (∀ w6, Chg (fun j => j = b ∨ j = bw ∨ j = bo) w5b w6 → w6.frozen? ⟨ba, t, none⟩ = false) := Lib.hid (fun w6 hc => (H5.out.ops.chg hc (fun e => e.elim H5.out.blk.d2 (fun e => e.elim H5.out.blk.d3 (fun e => hkk.a1 e.symm)))).free t)
              have ZBL : Hid (∀ w6 w7, Chg (fun j => j = b ∨ j = bw ∨ j = bo) w5b w6 → Below w6.heap.size w6 w7 → w7.frozen? ⟨ba, t, none⟩ = false) := Lib.hid (fun w6 w7 hc hb => ((H5.out.ops.chg hc (fun e => e.elim H5.out.blk.d2 (fun e => e.elim H5.out.blk.d3 (fun e => hkk.a1 e.symm)))).chg (chg_of_below (fun _ => False) hb) (fun h => h)).free t)
              clear hkk
              have hstep := s_step H5.out.sys hok.op (hok.cl.ok HS8.out.1 (by omega)) hok.ap hok.ge
              have HST := Lib.hid (claims_step hok.cl HS8.out.1 H5.out.h1 H5.out.h2 (by omega))
              have HSC := Lib.hid hstep
              have hom := hok.cl.2.2.1
              have hos := hok.cl.2.2.2.1
              have hmo : many'.getD t 0 = o.m := hok.m
              have HMO := Lib.hid hmo
              clear hok hstep hmo
              go_wp2_with fail
              refine HSC.out.mono ?_; rintro e w6 ⟨he, ho, hsy, hc⟩
              rcases HST.out with ⟨g1, g2, g3, g4⟩ | ⟨g1, g2, g3, g4⟩ | ⟨g1, g2, g3, g4, g5, g6⟩
              · rw [decide_eq_false g1] at he
                rw [g4] at hsy
                have H6 := Lib.hid (H5.out.stepped HTS.out hc hsy ho g2 g3)
                subst he
                clear ho hsy hc g1 g2 g3 g4
                go_wp2
                go_roundw
                case rel => exact ⟨k + 1, nx + 1, _, _, _, _, _, by omega, by omega, by omega, by omega, rfl, by go_num, by go_num, H6⟩
                case measure => simp [intOf]; omega
              · rw [decide_eq_true g1] at he
                rw [g4] at hsy
                subst he
                have fp : w6.cell? ⟨ba, t, none⟩ = some (.pointer (some ⟨bo, 0, none⟩)) := FPT.out w6 hc
                have zp : w6.frozen? ⟨ba, t, none⟩ = false := ZPT.out w6 hc
                have hre := s_result ho
                simp only [g1, g2, g3, if_true] at hre
                have HRE := Lib.hid hre
                have HD := Lib.hid (And.intro hc hsy)
                clear ho hsy hc g1 g2 g3 g4 hre
                go_wp2_with fail
                refine HRE.out.mono ?_; rintro e w7 ⟨rfl, hb⟩
                have fp7 := kcell hb fp
                have zp7 : w7.frozen? ⟨ba, t, none⟩ = false := ZBL.out w6 w7 HD.out.1 hb
                have H7 := Lib.hid (H5.out.done HTS.out (HD.out.1.trans (chg_of_below (fun j => j = b ∨ j = bw ∨ j = bo) hb) (fun _ _ h => h)) (HD.out.2.keep hb) (Nat.le_refl _))
                clear hb fp zp
                go_wp2
                go_roundw
                case rel => exact ⟨k + 1, nx + 1, _, _, _, _, _, by omega, by omega, by omega, by omega, rfl, by go_num, by go_num, H7⟩
                case measure => simp [intOf]; omega
              · rw [decide_eq_true g1] at he
                rw [g4] at hsy
                subst he
                have fp : w6.cell? ⟨ba, t, none⟩ = some (.pointer (some ⟨bo, 0, none⟩)) := FPT.out w6 hc
                have zp : w6.frozen? ⟨ba, t, none⟩ = false := ZPT.out w6 hc
                have hre := s_result ho
                simp only [g1, g2, g3, if_true] at hre
                have HRE := Lib.hid hre
                have HD := Lib.hid (And.intro hc hsy)
                obtain ⟨m, hm⟩ : ∃ m, o.m = m := ⟨_, rfl⟩
                have G5 : Hid (w0 + m ≤ w1 + s ∧ w0 + m ≤ w2 + s) := Lib.hid (by rw [← hm]; exact ⟨g5, g6⟩)
                have HD : Hid (Chg (fun j => j = b ∨ j = bw ∨ j = bo) w5b w6 ∧ Sys W w6 W.heap.size (0 : Nat) (s : Nat) b bw bb [w0 + m, w1, w2]) := Lib.hid (by rw [← hm]; exact ⟨hc, hsy⟩)
                have HMM : Hid (many'.getD t 0 = m) := Lib.hid (by rw [← hm]; exact HMO.out)
                have hm1 : 1 ≤ m ∧ m ≤ 8 := by have := HS8.out; omega
                have HM1 := Lib.hid hm1
                clear ho hsy hc g1 g2 g3 g4 g5 g6 hre hm hom hos hm1
                go_wp2_with fail
                refine HRE.out.mono ?_; rintro e w7 ⟨rfl, hb⟩
                have fp7 := kcell hb fp
                have zp7 : w7.frozen? ⟨ba, t, none⟩ = false := ZBL.out w6 w7 HD.out.1 hb
                have H7 := Lib.hid (H5.out.done HTS.out (HD.out.1.trans (chg_of_below (fun j => j = b ∨ j = bw ∨ j = bo) hb) (fun _ _ h => h)) (HD.out.2.keep hb) (Nat.le_add_right w0 m))
                clear hb fp zp
                go_wp2_with fail
                have hst9 := H7.out
                generalize w7.setCell ⟨ba, t, none⟩ (.pointer none) = w8 at hst9 ⊢
                have H8 := Lib.hid hst9
                clear H7 hst9 fp7 zp7
                refine (peek_calls b bw bb [w0 + m, w1, w2] 0 3 w8 H8.out.sys.mem (by show 0 < 3; decide) (by decide) (by decide)).mono ?_; rintro e w9 ⟨g, c, he, hcell, _, hb⟩
                obtain rfl : e = .returned (.slice (some ⟨g, 0, none⟩) 3 c) := he
                have f1 : w9.cell? ⟨g, 1, none⟩ = some (.int .u64 w1) := hcell 1 (by show 1 < 3; decide)
                have f2 : w9.cell? ⟨g, 2, none⟩ = some (.int .u64 w2) := hcell 2 (by show 2 < 3; decide)
                have H9 := Lib.hid (H8.out.keep hb)
                clear hcell hb
                have fm : w9.cell? ⟨bn, t, none⟩ = some (.int .i64 m) := by
                  rw [H9.out.mny.cell t]; exact many_at H9.out.lm HT4.out HMM.out
                have fs : w9.cell? ⟨W.heap.size, 1, none⟩ = some (.int .i64 s) := H9.out.sys.box.cell 1
                have e1 : IntKind.u64.wrap (m : Int) = (m : Int) := wrap_small m (by have := HM1.out; omega)
                have e2 : IntKind.u64.wrap (s : Int) = (s : Int) := wrap_small s (by have := HS8.out; omega)
                have e3 : IntKind.u64.wrap ((w0 : Int) + (m : Int)) = ((w0 + m : Nat) : Int) := by rw [← Int.natCast_add]; exact wrap_small _ (by have := HM1.out; omega)
                have e4 : IntKind.u64.wrap ((w1 : Int) + (s : Int)) = ((w1 + s : Nat) : Int) := by rw [← Int.natCast_add]; exact wrap_small _ (by have := HS8.out; have := H9.out.h1; have := HM1.out; omega)
                have e5 : IntKind.u64.wrap ((w2 : Int) + (s : Int)) = ((w2 + s : Nat) : Int) := by rw [← Int.natCast_add]; exact wrap_small _ (by have := HS8.out; have := H9.out.h2; have := HM1.out; omega)
                have t1 : decide ((w1 : Int) + (s : Int) < (w0 : Int) + (m : Int)) = false := by have := G5.out; rw [decide_eq_false_iff_not]; omega
                have t2 : decide ((w2 : Int) + (s : Int) < (w0 : Int) + (m : Int)) = false := by have := G5.out; rw [decide_eq_false_iff_not]; omega
                go_wp2_with fail
                go_quiet (fail)
                have H10 := H9.out.keep (below_of_chg ((Chg.refl _ w9).drewN nq))
                generalize w9.drewN nq = w10 at H10 ⊢
                have HQ := Lib.hid H10
                clear H10 H9 f1 f2 fm fs e1 e2 e3 e4 e5 t1 t2
                go_wp2_with fail
                obtain ⟨wo, rfl⟩ : ∃ wo : World, wo = wr := ⟨_, rfl⟩
                go_loopw [13, 22] (fun cv j wx => ∃ i : Nat, i ≤ m ∧ cv = .int .i64 (w0 + i : Nat) ∧ j = .int .i64 i ∧ Hid (ClSt W wx W.heap.size s b bw bb ba bn bm (w0 + m) w1 w2 (w0 + i) (slots.set t none) many')) (fun _ j _ => m - (intOf j).toNat)
                case atStart => exact ⟨0, by omega, rfl, rfl, HQ⟩
                case round =>
                  obtain ⟨i, hi, rfl, rfl, HJ⟩ := hrel
                  have hmm := HM1.out
                  have fm : wr.cell? ⟨bn, t, none⟩ = some (.int .i64 m) := by
                    rw [HJ.out.mny.cell t]; exact many_at HJ.out.lm HT4.out HMM.out
                  by_cases him : i < m
                  · have hrun := got_lookup HJ.out.got (w0 + i) (by omega)
                    rw [decide_eq_false (Nat.lt_irrefl _), Int.natCast_add] at hrun
                    obtain ⟨wy, hup, hgot, hgr⟩ := got_update HJ.out.got (by omega)
                    rw [Int.natCast_add] at hup
                    have HJ2 := Lib.hid (HJ.out.more hgr hgot)
                    have e1 : IntKind.u64.wrap (i : Int) = (i : Int) := wrap_small i (by omega)
                    have e2 : IntKind.u64.wrap ((w0 : Int) + (i : Int)) = (w0 : Int) + (i : Int) := by rw [← Int.natCast_add]; exact wrap_small _ (by omega)
                    clear hgot hgr
                    go_wp2
                    go_roundw
                    case rel => exact ⟨i + 1, by omega, by go_num, by go_num, HJ2⟩
                    case measure => simp [intOf]; omega
                  · obtain rfl : i = m := by omega
                    clear him
                    go_wp2
                    go_roundw
                    case rel => exact ⟨k + 1, nx + 1, w0 + i, _, _, _, _, by omega, by omega, by omega, by omega, rfl, by go_num, by go_num, HJ⟩
                    case measure => simp [intOf]; omega
            · have tn : decide (len ≤ nx) = true := by simp; omega
              clear hnl
              go_wp2
              go_roundw
              case rel => exact ⟨k + 1, nx, _, _, _, _, _, by omega, by omega, hnx, by omega, rfl, rfl, by go_num, HI⟩
              case measure => simp [intOf]; omega
          | some x =>
            obtain ⟨bo, bwd, o⟩ := x
            change wr.cell? ⟨ba, t, none⟩ = some (.pointer (some ⟨bo, 0, none⟩)) at fcell
            have H5 := HI
            have HTS := HSL
            obtain ⟨many', hmany⟩ : ∃ m', m' = many := ⟨_, rfl⟩
            subst hmany
            have hok := H5.out.ok t bo bwd o HTS.out
            have hkk := hok
            have FPT : Hid (∀ w6, Chg (fun j => j = b ∨ j = bw ∨ j = bo) wr w6 → w6.cell? ⟨ba, t, none⟩ = some (.pointer (some ⟨bo, 0, none⟩))) := Lib.hid (fun w6 hc => by
              have hq := H5.out.ops.chg hc (fun e => e.elim H5.out.blk.d2 (fun e => e.elim H5.out.blk.d3 (fun e => hkk.a1 e.symm)))
              rw [hq.cell t, List.getElem?_map, HTS.out]; rfl)
            have ZPT : Hid (∀ w6, Chg (fun j => j = b ∨ j = bw ∨ j = bo) wr w6 → w6.frozen? ⟨ba, t, none⟩ = false) := Lib.hid (fun w6 hc => (H5.out.ops.chg hc (fun e => e.elim H5.out.blk.d2 (fun e => e.elim H5.out.blk.d3 (fun e => hkk.a1 e.symm)))).free t)
            have ZBL : Hid (∀ w6 w7, Chg (fun j => j = b ∨ j = bw ∨ j = bo) wr w6 → Below w6.heap.size w6 w7 → w7.frozen? ⟨ba, t, none⟩ = false) := Lib.hid (fun w6 w7 hc hb => ((H5.out.ops.chg hc (fun e => e.elim H5.out.blk.d2 (fun e => e.elim H5.out.blk.d3 (fun e => hkk.a1 e.symm)))).chg (chg_of_below (fun _ => False) hb) (fun h => h)).free t)
            clear hkk
            have hstep := s_step H5.out.sys hok.op (hok.cl.ok HS8.out.1 (by omega)) hok.ap hok.ge
            have HST := Lib.hid (claims_step hok.cl HS8.out.1 H5.out.h1 H5.out.h2 (by omega))
            have HSC := Lib.hid hstep
            have hom := hok.cl.2.2.1
            have hos := hok.cl.2.2.2.1
            have hmo : many'.getD t 0 = o.m := hok.m
            have HMO := Lib.hid hmo
            clear hok hstep hmo
            go_wp2_with fail
            refine HSC.out.mono ?_; rintro e w6 ⟨he, ho, hsy, hc⟩
            rcases HST.out with ⟨g1, g2, g3, g4⟩ | ⟨g1, g2, g3, g4⟩ | ⟨g1, g2, g3, g4, g5, g6⟩
            · rw [decide_eq_false g1] at he
              rw [g4] at hsy
              have H6 := Lib.hid (H5.out.stepped HTS.out hc hsy ho g2 g3)
              subst he
              clear ho hsy hc g1 g2 g3 g4
              go_wp2
              go_roundw
              case rel => exact ⟨k + 1, nx, _, _, _, _, _, by omega, by omega, by omega, by omega, rfl, rfl, by go_num, H6⟩
              case measure => simp [intOf]; omega
            · rw [decide_eq_true g1] at he
              rw [g4] at hsy
              subst he
              have fp : w6.cell? ⟨ba, t, none⟩ = some (.pointer (some ⟨bo, 0, none⟩)) := FPT.out w6 hc
              have zp : w6.frozen? ⟨ba, t, none⟩ = false := ZPT.out w6 hc
              have hre := s_result ho
              simp only [g1, g2, g3, if_true] at hre
              have HRE := Lib.hid hre
              have HD := Lib.hid (And.intro hc hsy)
              clear ho hsy hc g1 g2 g3 g4 hre
              go_wp2_with fail
              refine HRE.out.mono ?_; rintro e w7 ⟨rfl, hb⟩
              have fp7 := kcell hb fp
              have zp7 : w7.frozen? ⟨ba, t, none⟩ = false := ZBL.out w6 w7 HD.out.1 hb
              have H7 := Lib.hid (H5.out.done HTS.out (HD.out.1.trans (chg_of_below (fun j => j = b ∨ j = bw ∨ j = bo) hb) (fun _ _ h => h)) (HD.out.2.keep hb) (Nat.le_refl _))
              clear hb fp zp
              go_wp2
              go_roundw
              case rel => exact ⟨k + 1, nx, _, _, _, _, _, by omega, by omega, by omega, by omega, rfl, rfl, by go_num, H7⟩
              case measure => simp [intOf]; omega
            · rw [decide_eq_true g1] at he
              rw [g4] at hsy
              subst he
              have fp : w6.cell? ⟨ba, t, none⟩ = some (.pointer (some ⟨bo, 0, none⟩)) := FPT.out w6 hc
              have zp : w6.frozen? ⟨ba, t, none⟩ = false := ZPT.out w6 hc
              have hre := s_result ho
              simp only [g1, g2, g3, if_true] at hre
              have HRE := Lib.hid hre
              have HD := Lib.hid (And.intro hc hsy)
              obtain ⟨m, hm⟩ : ∃ m, o.m = m := ⟨_, rfl⟩
              have G5 : Hid (w0 + m ≤ w1 + s ∧ w0 + m ≤ w2 + s) := Lib.hid (by rw [← hm]; exact ⟨g5, g6⟩)
              have HD : Hid (Chg (fun j => j = b ∨ j = bw ∨ j = bo) wr w6 ∧ Sys W w6 W.heap.size (0 : Nat) (s : Nat) b bw bb [w0 + m, w1, w2]) := Lib.hid (by rw [← hm]; exact ⟨hc, hsy⟩)
              have HMM : Hid (many'.getD t 0 = m) := Lib.hid (by rw [← hm]; exact HMO.out)
              have hm1 : 1 ≤ m ∧ m ≤ 8 := by have := HS8.out; omega
              have HM1 := Lib.hid hm1
              clear ho hsy hc g1 g2 g3 g4 g5 g6 hre hm hom hos hm1
              go_wp2_with fail
              refine HRE.out.mono ?_; rintro e w7 ⟨rfl, hb⟩
              have fp7 := kcell hb fp
              have zp7 : w7.frozen? ⟨ba, t, none⟩ = false := ZBL.out w6 w7 HD.out.1 hb
              have H7 := Lib.hid (H5.out.done HTS.out (HD.out.1.trans (chg_of_below (fun j => j = b ∨ j = bw ∨ j = bo) hb) (fun _ _ h => h)) (HD.out.2.keep hb) (Nat.le_add_right w0 m))
              clear hb fp zp
              go_wp2_with fail
              have hst9 := H7.out
              generalize w7.setCell ⟨ba, t, none⟩ (.pointer none) = w8 at hst9 ⊢
              have H8 := Lib.hid hst9
              clear H7 hst9 fp7 zp7
              refine (peek_calls b bw bb [w0 + m, w1, w2] 0 3 w8 H8.out.sys.mem (by show 0 < 3; decide) (by decide) (by decide)).mono ?_; rintro e w9 ⟨g, c, he, hcell, _, hb⟩
              obtain rfl : e = .returned (.slice (some ⟨g, 0, none⟩) 3 c) := he
              have f1 : w9.cell? ⟨g, 1, none⟩ = some (.int .u64 w1) := hcell 1 (by show 1 < 3; decide)
              have f2 : w9.cell? ⟨g, 2, none⟩ = some (.int .u64 w2) := hcell 2 (by show 2 < 3; decide)
              have H9 := Lib.hid (H8.out.keep hb)
              clear hcell hb
              have fm : w9.cell? ⟨bn, t, none⟩ = some (.int .i64 m) := by
                rw [H9.out.mny.cell t]; exact many_at H9.out.lm HT4.out HMM.out
              have fs : w9.cell? ⟨W.heap.size, 1, none⟩ = some (.int .i64 s) := H9.out.sys.box.cell 1
              have e1 : IntKind.u64.wrap (m : Int) = (m : Int) := wrap_small m (by have := HM1.out; omega)
              have e2 : IntKind.u64.wrap (s : Int) = (s : Int) := wrap_small s (by have := HS8.out; omega)
              have e3 : IntKind.u64.wrap ((w0 : Int) + (m : Int)) = ((w0 + m : Nat) : Int) := by rw [← Int.natCast_add]; exact wrap_small _ (by have := HM1.out; omega)
              have e4 : IntKind.u64.wrap ((w1 : Int) + (s : Int)) = ((w1 + s : Nat) : Int) := by rw [← Int.natCast_add]; exact wrap_small _ (by have := HS8.out; have := H9.out.h1; have := HM1.out; omega)
              have e5 : IntKind.u64.wrap ((w2 : Int) + (s : Int)) = ((w2 + s : Nat) : Int) := by rw [← Int.natCast_add]; exact wrap_small _ (by have := HS8.out; have := H9.out.h2; have := HM1.out; omega)
              have t1 : decide ((w1 : Int) + (s : Int) < (w0 : Int) + (m : Int)) = false := by have := G5.out; rw [decide_eq_false_iff_not]; omega
              have t2 : decide ((w2 : Int) + (s : Int) < (w0 : Int) + (m : Int)) = false := by have := G5.out; rw [decide_eq_false_iff_not]; omega
              go_wp2_with fail
              go_quiet (fail)
              have H10 := H9.out.keep (below_of_chg ((Chg.refl _ w9).drewN nq))
              generalize w9.drewN nq = w10 at H10 ⊢
              have HQ := Lib.hid H10
              clear H10 H9 f1 f2 fm fs e1 e2 e3 e4 e5 t1 t2
              go_wp2_with fail
              obtain ⟨wo, rfl⟩ : ∃ wo : World, wo = wr := ⟨_, rfl⟩
              go_loopw [13, 22] (fun cv j wx => ∃ i : Nat, i ≤ m ∧ cv = .int .i64 (w0 + i : Nat) ∧ j = .int .i64 i ∧ Hid (ClSt W wx W.heap.size s b bw bb ba bn bm (w0 + m) w1 w2 (w0 + i) (slots.set t none) many')) (fun _ j _ => m - (intOf j).toNat)
              case atStart => exact ⟨0, by omega, rfl, rfl, HQ⟩
              case round =>
                obtain ⟨i, hi, rfl, rfl, HJ⟩ := hrel
                have hmm := HM1.out
                have fm : wr.cell? ⟨bn, t, none⟩ = some (.int .i64 m) := by
                  rw [HJ.out.mny.cell t]; exact many_at HJ.out.lm HT4.out HMM.out
                by_cases him : i < m
                · have hrun := got_lookup HJ.out.got (w0 + i) (by omega)
                  rw [decide_eq_false (Nat.lt_irrefl _), Int.natCast_add] at hrun
                  obtain ⟨wy, hup, hgot, hgr⟩ := got_update HJ.out.got (by omega)
                  rw [Int.natCast_add] at hup
                  have HJ2 := Lib.hid (HJ.out.more hgr hgot)
                  have e1 : IntKind.u64.wrap (i : Int) = (i : Int) := wrap_small i (by omega)
                  have e2 : IntKind.u64.wrap ((w0 : Int) + (i : Int)) = (w0 : Int) + (i : Int) := by rw [← Int.natCast_add]; exact wrap_small _ (by omega)
                  clear hgot hgr
                  go_wp2
                  go_roundw
                  case rel => exact ⟨i + 1, by omega, by go_num, by go_num, HJ2⟩
                  case measure => simp [intOf]; omega
                · obtain rfl : i = m := by omega
                  clear him
                  go_wp2
                  go_roundw
                  case rel => exact ⟨k + 1, nx, w0 + i, _, _, _, _, by omega, by omega, by omega, by omega, rfl, rfl, by go_num, HJ⟩
                  case measure => simp [intOf]; omega
      · have t250 : decide ((k : Int) < 250) = false := by simp; omega
        go_wp2_with fail
        refine (peek_calls b bw bb [w0, w1, w2] 0 3 wr HI.out.sys.mem (by show 0 < 3; decide) (by decide) (by decide)).mono ?_; rintro e w4 ⟨g, c, he, hcell, _, hb⟩
        obtain rfl : e = .returned (.slice (some ⟨g, 0, none⟩) 3 c) := he
        have f0 : w4.cell? ⟨g, 0, none⟩ = some (.int .u64 w0) := hcell 0 (by show 0 < 3; decide)
        have H4 := Lib.hid (HI.out.keep hb)
        have HW0 := Lib.hid hw0
        clear hcell hb
        go_wp2_with fail
        go_loopw [24] (fun j wx => ∃ m : Nat, m ≤ w0 ∧ j = .int .i64 m ∧ wx = w4) (fun j _ => w0 - (intOf j).toNat)
        case atStart => exact ⟨0, by omega, rfl, rfl⟩
        case round =>
          obtain ⟨m, hm, rfl, rfl⟩ := hrel
          by_cases hmw : m < w0
          · have hrun := got_lookup H4.out.got m (by omega)
            rw [decide_eq_true hmw] at hrun
            have wmm : IntKind.u64.wrap (m : Int) = (m : Int) := wrap_small m (by omega)
            go_wp2
            go_roundw
            case rel => exact ⟨m + 1, by omega, by go_num, trivial⟩
            case measure => simp [intOf]; omega
          · have tm : decide (m < w0) = false := by simp; omega
            have ww : IntKind.u64.wrap (w0 : Int) = (w0 : Int) := wrap_small w0 (by omega)
            clear hmw
            go_wp2_with fail
            refine (trap_calls b bw bb [w0, w1, w2] _ H4.out.sys.mem).mono ?_; rintro e w' ⟨rfl, rfl⟩
            go_wp2_with fail
            refine (one_calls _).mono ?_; rintro e w9 ⟨rfl, hb⟩
            have HE := Lib.hid (bseq H4.out.sys.below hb)
            clear hb
            go_wp2
            go_ret
            exact ⟨rfl, HE.out⟩
    · have tk : decide (k < len') = false := by simp; omega
      clear hlt
      go_wp2_with fail
      refine (peek_calls b bw bb [w0, w1, w2] 0 3 wr HI.out.sys.mem (by show 0 < 3; decide) (by decide) (by decide)).mono ?_; rintro e w4 ⟨g, c, he, hcell, _, hb⟩
      obtain rfl : e = .returned (.slice (some ⟨g, 0, none⟩) 3 c) := he
      have f0 : w4.cell? ⟨g, 0, none⟩ = some (.int .u64 w0) := hcell 0 (by show 0 < 3; decide)
      have H4 := Lib.hid (HI.out.keep hb)
      have HW0 := Lib.hid hw0
      clear hcell hb
      go_wp2_with fail
      go_loopw [24] (fun j wx => ∃ m : Nat, m ≤ w0 ∧ j = .int .i64 m ∧ wx = w4) (fun j _ => w0 - (intOf j).toNat)
      case atStart => exact ⟨0, by omega, rfl, rfl⟩
      case round =>
        obtain ⟨m, hm, rfl, rfl⟩ := hrel
        by_cases hmw : m < w0
        · have hrun := got_lookup H4.out.got m (by omega)
          rw [decide_eq_true hmw] at hrun
          have wmm : IntKind.u64.wrap (m : Int) = (m : Int) := wrap_small m (by omega)
          go_wp2
          go_roundw
          case rel => exact ⟨m + 1, by omega, by go_num, trivial⟩
          case measure => simp [intOf]; omega
        · have tm : decide (m < w0) = false := by simp; omega
          have ww : IntKind.u64.wrap (w0 : Int) = (w0 : Int) := wrap_small w0 (by omega)
          clear hmw
          go_wp2_with fail
          refine (trap_calls b bw bb [w0, w1, w2] _ H4.out.sys.mem).mono ?_; rintro e w' ⟨rfl, rfl⟩
          go_wp2_with fail
          refine (one_calls _).mono ?_; rintro e w9 ⟨rfl, hb⟩
          have HE := Lib.hid (bseq H4.out.sys.below hb)
          clear hb
          go_wp2
          go_ret
          exact ⟨rfl, HE.out⟩
end Go.Proofs.Ytobdpieijgiaoaa
