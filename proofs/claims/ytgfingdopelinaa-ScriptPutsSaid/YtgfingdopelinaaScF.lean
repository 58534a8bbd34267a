/- contract of reader.entry. -/
import Derived.Test.YtgfingdopelinaaScE
namespace Go.Proofs.Ytgfingdopelinaa
set_option linter.unusedSimpArgs false
set_option linter.unusedVariables false
open Go.RowKit Go.Deep

/-- an entry of a script. -/
structure En where
  thread : Int
  pick : Bool
  kind : Int
  topic : Int
  gk : Int
  gen : Nat
  mode : Int
  text : ByteArray
  pos : Nat
def En.vals (e : En) : List Value := [.int .i64 e.thread, .bool e.pick, .int .i64 e.kind, .int .i64 e.topic, .int .i64 e.gk, .int .u64 e.gen, .int .i64 e.mode, .string e.text, .int .u64 e.pos]
def En.val (e : En) : Value := .agg #[.int .i64 e.thread, .bool e.pick, .int .i64 e.kind, .int .i64 e.topic, .int .i64 e.gk, .int .u64 e.gen, .int .i64 e.mode, .string e.text, .int .u64 e.pos]
abbrev noText : ByteArray := { data := #[] }
def enZero : En := ⟨0, false, 0, 0, 0, 0, 0, noText, 0⟩
def rentry (r : List Nat × Bool) : En × (List Nat × Bool) :=
  if (rsmall 127 r).1 % 2 = 1 then ({ enZero with thread := ((rsmall 127 r).1 / 2 : Nat), pick := true }, (rsmall 127 r).2) else
    let e0 : En := { enZero with thread := ((rsmall 127 r).1 / 2 : Nat), kind := ((rsmall 4 (rsmall 127 r).2).1 : Nat), topic := ((rsmall 3 (rsmall 4 (rsmall 127 r).2).2).1 : Nat) }
    let r0 := (rsmall 3 (rsmall 4 (rsmall 127 r).2).2).2
    if (rsmall 4 (rsmall 127 r).2).1 = 0 then ({ e0 with mode := ((rsmall 2 r0).1 : Nat), text := strOf (rtext (rsmall 2 r0).2).1 }, (rtext (rsmall 2 r0).2).2)
    else if (rsmall 4 (rsmall 127 r).2).1 = 1 then (e0, r0)
    else if (rsmall 4 (rsmall 127 r).2).1 = 4 then ({ e0 with gk := ((rhandle r0).1.1 : Nat), gen := (rhandle r0).1.2, pos := (rnum (rhandle r0).2).1 }, (rnum (rhandle r0).2).2)
    else ({ e0 with gk := ((rhandle r0).1.1 : Nat), gen := (rhandle r0).1.2 }, (rhandle r0).2)

theorem rsmall_le (m : Nat) (r : List Nat × Bool) : (rsmall m r).1 ≤ m := by
  unfold rsmall
  split
  · exact Nat.zero_le _
  · omega
/-- where reader.entry stands: its box, its result, its entry, the reader. -/
structure ES (w W : World) (rb s0 s2 : Nat) (cs : List Value) (r : List Nat × Bool) : Prop where
  box : Blk W s0 65 [.pointer (some ⟨rb, 0, none⟩)]
  res : Blk W (s0 + 1) 34 enZero.vals
  ent : Blk W s2 34 cs
  rd : RdAt W rb r
  chg : Chg (fun j => j = rb) w W
  lt : rb < s0
  lt2 : s0 + 1 < s2
  s0 : s0 = w.heap.size
theorem ES.call {w W W' : World} {rb s0 s2 : Nat} {cs : List Value} {r r' : List Nat × Bool} (h : ES w W rb s0 s2 cs r) (hc : Chg (fun j => j = rb) W W') (hr : RdAt W' rb r') : ES w W' rb s0 s2 cs r' :=
  ⟨h.box.chg hc (by have := h.lt; omega), h.res.chg hc (by have := h.lt; omega), h.ent.chg hc (by have := h.lt; have := h.lt2; omega), hr, h.chg.trans hc (fun _ _ h => h), h.lt, h.lt2, h.s0⟩
theorem ES.drew {w W : World} {rb s0 s2 : Nat} {cs : List Value} {r : List Nat × Bool} (h : ES w W rb s0 s2 cs r) : ES w W.drew rb s0 s2 cs r :=
  ⟨h.box.drew, h.res.drew, h.ent.drew, h.rd.below (Below.refl _ _).drew, h.chg.drew, h.lt, h.lt2, h.s0⟩
theorem ES.store {w W W' : World} {rb s0 s2 : Nat} {cs cs' : List Value} {r : List Nat × Bool} (h : ES w W rb s0 s2 cs r) (hcs : ∀ v ∈ cs, ∀ x, v ≠ .int .u8 x) (hc : Chg (fun j => j = s2) W W') (hb : Blk W' s2 34 cs') : ES w W' rb s0 s2 cs' r :=
  ⟨h.box.chg hc (by have := h.lt2; omega), h.res.chg hc (by have := h.lt2; omega), hb, h.rd.chg hc (by have := h.lt; have := h.lt2; omega) (fun k _ e o x => by
    subst e
    rw [h.ent.cell]
    intro hv
    exact hcs _ (List.mem_of_getElem? hv) x rfl), ⟨hc.os.trans h.chg.os, hc.tape.trans h.chg.tape, hc.output.trans h.chg.output, Nat.le_trans h.chg.size hc.size, fun k hk hn => (hc.block k (Nat.lt_of_lt_of_le hk h.chg.size) (by have := h.s0; have := h.lt2; omega)).trans (h.chg.block k hk hn)⟩, h.lt, h.lt2, h.s0⟩
theorem en_cells {w : World} {b : Nat} {t : TypeId} {v0 v1 v2 v3 v4 v5 v6 v7 v8 : Value} (h : Blk w b t [v0, v1, v2, v3, v4, v5, v6, v7, v8]) :
    (w.cell? ⟨b, 0, none⟩ = some v0 ∧ w.cell? ⟨b, 1, none⟩ = some v1 ∧ w.cell? ⟨b, 2, none⟩ = some v2 ∧ w.cell? ⟨b, 3, none⟩ = some v3 ∧ w.cell? ⟨b, 4, none⟩ = some v4 ∧ w.cell? ⟨b, 5, none⟩ = some v5 ∧ w.cell? ⟨b, 6, none⟩ = some v6 ∧ w.cell? ⟨b, 7, none⟩ = some v7 ∧ w.cell? ⟨b, 8, none⟩ = some v8) ∧
    (w.frozen? ⟨b, 0, none⟩ = false ∧ w.frozen? ⟨b, 1, none⟩ = false ∧ w.frozen? ⟨b, 2, none⟩ = false ∧ w.frozen? ⟨b, 3, none⟩ = false ∧ w.frozen? ⟨b, 4, none⟩ = false ∧ w.frozen? ⟨b, 5, none⟩ = false ∧ w.frozen? ⟨b, 6, none⟩ = false ∧ w.frozen? ⟨b, 7, none⟩ = false ∧ w.frozen? ⟨b, 8, none⟩ = false) :=
  ⟨⟨h.cell 0, h.cell 1, h.cell 2, h.cell 3, h.cell 4, h.cell 5, h.cell 6, h.cell 7, h.cell 8⟩, h.free 0, h.free 1, h.free 2, h.free 3, h.free 4, h.free 5, h.free 6, h.free 7, h.free 8⟩

theorem set9 {w : World} {b : Nat} {ty : TypeId} {c0 c1 c2 c3 c4 c5 c6 c7 c8 : Value} (h : Blk w b ty [c0, c1, c2, c3, c4, c5, c6, c7, c8]) (v0 v1 v2 v3 v4 v5 v6 v7 v8 : Value) :
    Blk ((((((((((w).setCell ⟨b, 0, none⟩ v0).setCell ⟨b, 1, none⟩ v1).setCell ⟨b, 2, none⟩ v2).setCell ⟨b, 3, none⟩ v3).setCell ⟨b, 4, none⟩ v4).setCell ⟨b, 5, none⟩ v5).setCell ⟨b, 6, none⟩ v6).setCell ⟨b, 7, none⟩ v7).setCell ⟨b, 8, none⟩ v8) b ty [v0, v1, v2, v3, v4, v5, v6, v7, v8] ∧ Chg (fun j => j = b) w ((((((((((w).setCell ⟨b, 0, none⟩ v0).setCell ⟨b, 1, none⟩ v1).setCell ⟨b, 2, none⟩ v2).setCell ⟨b, 3, none⟩ v3).setCell ⟨b, 4, none⟩ v4).setCell ⟨b, 5, none⟩ v5).setCell ⟨b, 6, none⟩ v6).setCell ⟨b, 7, none⟩ v7).setCell ⟨b, 8, none⟩ v8) :=
  ⟨((((((((h.set 0 v0).set 1 v1).set 2 v2).set 3 v3).set 4 v4).set 5 v5).set 6 v6).set 7 v7).set 8 v8, (((((((((Chg.refl (fun j => j = b) w).setCell ⟨b, 0, none⟩ v0 (fun _ => rfl)).setCell ⟨b, 1, none⟩ v1 (fun _ => rfl)).setCell ⟨b, 2, none⟩ v2 (fun _ => rfl)).setCell ⟨b, 3, none⟩ v3 (fun _ => rfl)).setCell ⟨b, 4, none⟩ v4 (fun _ => rfl)).setCell ⟨b, 5, none⟩ v5 (fun _ => rfl)).setCell ⟨b, 6, none⟩ v6 (fun _ => rfl)).setCell ⟨b, 7, none⟩ v7 (fun _ => rfl)).setCell ⟨b, 8, none⟩ v8 (fun _ => rfl)⟩
theorem en_finish {w W : World} {rb s0 s2 : Nat} {cs : List Value} {r : List Nat × Bool} (h : ES w W rb s0 s2 cs r) (v0 v1 v2 v3 v4 v5 v6 v7 v8 : Value) :
    ∃ W', W' = ((((((((((W).setCell ⟨s0 + 1, 0, none⟩ v0).setCell ⟨s0 + 1, 1, none⟩ v1).setCell ⟨s0 + 1, 2, none⟩ v2).setCell ⟨s0 + 1, 3, none⟩ v3).setCell ⟨s0 + 1, 4, none⟩ v4).setCell ⟨s0 + 1, 5, none⟩ v5).setCell ⟨s0 + 1, 6, none⟩ v6).setCell ⟨s0 + 1, 7, none⟩ v7).setCell ⟨s0 + 1, 8, none⟩ v8) ∧ (RdAt W' rb r ∧ Chg (fun j => j = rb) w W') ∧ Blk W' (s0 + 1) 34 [v0, v1, v2, v3, v4, v5, v6, v7, v8] := by
  obtain ⟨hb, hc⟩ := set9 (b := s0 + 1) h.res v0 v1 v2 v3 v4 v5 v6 v7 v8
  refine ⟨_, rfl, ⟨h.rd.chg hc (by have := h.lt; omega) (fun k _ e o x => ?_), ?_⟩, hb⟩
  · subst e
    rw [h.res.cell]
    intro hv
    have := List.mem_of_getElem? hv
    simp [En.vals] at this
  · exact ⟨hc.os.trans h.chg.os, hc.tape.trans h.chg.tape, hc.output.trans h.chg.output, Nat.le_trans h.chg.size hc.size, fun k hk hn => (hc.block k (Nat.lt_of_lt_of_le hk h.chg.size) (by have := h.s0; omega)).trans (h.chg.block k hk hn)⟩

set_option maxRecDepth 100000 in
set_option maxHeartbeats 1000000 in
theorem rentry_pick (rb : Nat) (r : List Nat × Bool) (w : World) (h : RdAt w rb r) (hp : (rsmall 127 r).1 % 2 = 1) :
    Calls Try.prog 30 #[.pointer (some ⟨rb, 0, none⟩)] w fun e w' => e = .returned (rentry r).1.val ∧ RdAt w' rb (rentry r).2 ∧ Chg (fun j => j = rb) w w' := by
  have hre : rentry r = ({ enZero with thread := ((rsmall 127 r).1 / 2 : Nat), pick := true }, (rsmall 127 r).2) := by unfold rentry; rw [if_pos hp]
  have HR := Lib.hid h
  obtain ⟨k, hk⟩ : ∃ k, (rsmall 127 r).1 = k := ⟨_, rfl⟩
  obtain ⟨r1, hr1⟩ : ∃ k, (rsmall 127 r).2 = k := ⟨_, rfl⟩
  have HC := fun W => Lib.hid (fun h => rsmall_calls rb 127 r W h (by decide))
  rw [hk, hr1] at HC
  rw [hk] at hp
  rw [hk, hr1] at hre
  have tp : ((k : Int) % 2 == 1) = true := by rw [beq_iff_eq]; omega
  have hk127 : k ≤ 127 := by rw [← hk]; exact rsmall_le 127 r
  have HK := Lib.hid (And.intro hk (And.intro hr1 hp))
  rw [hre]
  clear hk hr1 hp h hre
  go_enter Try.func30, Try.ntmps30
  go_wp2_with fail
  have HRD : Hid (RdAt ((w.alloc (.cells #[.pointer (some ⟨rb, 0, none⟩)] 65)).alloc (.cells enZero.vals.toArray 34)) rb r) := Lib.hid (HR.out.below (bnew (bnew (Below.refl _ _) _) _))
  have HC0 : Hid (Chg (fun j => j = rb) w ((w.alloc (.cells #[.pointer (some ⟨rb, 0, none⟩)] 65)).alloc (.cells enZero.vals.toArray 34))) := Lib.hid (((Chg.refl _ w).alloc _).alloc _)
  have HBX : Hid (Blk ((w.alloc (.cells #[.pointer (some ⟨rb, 0, none⟩)] 65)).alloc (.cells enZero.vals.toArray 34)) w.heap.size 65 [.pointer (some ⟨rb, 0, none⟩)]) := Lib.hid ((Blk.new w _ [.pointer (some ⟨rb, 0, none⟩)]).alloc _)
  have HRS : Hid (Blk ((w.alloc (.cells #[.pointer (some ⟨rb, 0, none⟩)] 65)).alloc (.cells enZero.vals.toArray 34)) (w.heap.size + 1) 34 enZero.vals) := Lib.hid (by have h := Blk.new (w.alloc (.cells #[.pointer (some ⟨rb, 0, none⟩)] 65)) 34 enZero.vals; simpa using h)
  refine ((HC _).out HRD.out).mono ?_; rintro e w1 ⟨rfl, hr2, hc2⟩
  have HES : Hid (ES w (w1.alloc (.cells #[.int .i64 ((k : Int) / 2), .bool true, .int .i64 0, .int .i64 0, .int .i64 0, .int .u64 0, .int .i64 0, .string noText, .int .u64 0] 34)) rb w.heap.size w1.heap.size [.int .i64 ((k : Int) / 2), .bool true, .int .i64 0, .int .i64 0, .int .i64 0, .int .u64 0, .int .i64 0, .string noText, .int .u64 0] r1) := Lib.hid (by
    have hl := HR.out.blk_lt
    have hz := hc2.size
    simp at hz
    exact ⟨(HBX.out.chg hc2 (by omega)).alloc _, (HRS.out.chg hc2 (by omega)).alloc _, Blk.new w1 _ [_, _, _, _, _, _, _, _, _], hr2.below (bnew (Below.refl _ _) _), (HC0.out.trans hc2 (fun _ _ h => h)).alloc _, hl, by omega, rfl⟩)
  clear hr2 hc2
  go_upto_region 4 with fail
  generalize w1.alloc (.cells #[.int .i64 ((k : Int) / 2), .bool true, .int .i64 0, .int .i64 0, .int .i64 0, .int .u64 0, .int .i64 0, .string noText, .int .u64 0] 34) = w2 at HES ⊢
  generalize hs2 : w1.heap.size = s2 at HES ⊢
  have hes := HES.out
  obtain ⟨⟨x0, x1, x2, x3, x4, x5, x6, x7, x8⟩, _⟩ := en_cells hes.ent
  obtain ⟨⟨y0, y1, y2, y3, y4, y5, y6, y7, y8⟩, z0, z1, z2, z3, z4, z5, z6, z7, z8⟩ := en_cells hes.res
  clear hes hs2
  go_wp2_with fail
  clear y0 y1 y2 y3 y4 y5 y6 y7 y8 z0 z1 z2 z3 z4 z5 z6 z7 z8 x0 x1 x2 x3 x4 x5 x6 x7 x8
  obtain ⟨W', hW', hf, hbl⟩ := en_finish HES.out (.int .i64 ((k : Int) / 2)) (.bool true) (.int .i64 0) (.int .i64 0) (.int .i64 0) (.int .u64 0) (.int .i64 0) (.string noText) (.int .u64 0)
  have HF := Lib.hid hf
  obtain ⟨⟨y0, y1, y2, y3, y4, y5, y6, y7, y8⟩, _⟩ := en_cells hbl
  rw [← hW']
  clear hW' hf hbl HES
  refine bodyPost_ret (v := .agg #[.int .i64 ((k : Int) / 2), .bool true, .int .i64 0, .int .i64 0, .int .i64 0, .int .u64 0, .int .i64 0, .string noText, .int .u64 0]) (by simp [results, Try.results30, go_sem, y0, y1, y2, y3, y4, y5, y6, y7, y8]) rfl ⟨by simp [En.val, enZero], HF.out.1, HF.out.2⟩
end Go.Proofs.Ytgfingdopelinaa
