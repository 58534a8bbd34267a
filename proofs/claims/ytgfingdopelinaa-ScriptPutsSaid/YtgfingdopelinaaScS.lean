/- contract of Put: entries that lie somewhere, all that are right are laid. -/
import Derived.Test.YtgfingdopelinaaScL
import Derived.Test.YtgfingdopelinaaScD
namespace Go.Proofs.Ytgfingdopelinaa
set_option linter.unusedSimpArgs false
set_option linter.unusedVariables false
open Go.RowKit Go.Deep

theorem lay_calls (e : En) (base : Nat) (v : Value) (bs : List Nat) (w : World) (hr : e.rightB = true) (hg : e.gen < 18446744073709551616) (hp : e.pos < 18446744073709551616)
    (hown : w.ownsRow base 5 1 v bs.length (u8s bs)) (hbase : base ≤ w.heap.size) (hlen : bs.length ≤ 549755813888) :
    Calls Try.prog 27 #[e.val, v] w fun r w' => ∃ v', r = .returned v' ∧ BRow w w' base v v' (bs ++ putE e.clean) := by
  unfold En.rightB callB at hr
  simp only [Bool.and_eq_true, Bool.or_eq_true, inB_true, decide_eq_true_eq] at hr
  obtain ⟨ht, hc⟩ := hr
  by_cases hpk : e.pick = true
  · have hcl : e.clean = En.mk ((e.thread.toNat : Nat) : Int) true ((0 : Nat) : Int) ((0 : Nat) : Int) ((0 : Nat) : Int) 0 ((0 : Nat) : Int) noText 0 := by
      unfold En.clean
      rw [if_pos hpk, show ((e.thread.toNat : Nat) : Int) = e.thread by omega]
      rfl
    have h := lay_pick e e.thread.toNat 0 0 0 0 0 0 noText base v bs w hcl (by omega) trivial (by omega) (by omega) (by omega) (by decide) (by decide) (by decide) hown hbase hlen
    rw [hcl]
    exact h
  · have hc := hc.resolve_left hpk
    have hgen : e.clean.gen < 18446744073709551616 := by
      unfold En.clean enZero
      split
      · exact Nat.zero_lt_succ _
      · split
        · exact Nat.zero_lt_succ _
        · split
          · exact hg
          · split
            · exact hg
            · exact Nat.zero_lt_succ _
    have hpos : e.clean.pos < 18446744073709551616 := by
      unfold En.clean enZero
      split
      · exact Nat.zero_lt_succ _
      · split
        · exact Nat.zero_lt_succ _
        · split
          · exact hp
          · split <;> exact Nat.zero_lt_succ _
    have hth : e.clean.thread = e.thread ∧ e.clean.pick = false := by
      unfold En.clean
      have hpf : e.pick = false := by simpa using hpk
      rw [if_neg hpk]
      split
      · exact ⟨rfl, rfl⟩
      · split
        · exact ⟨rfl, rfl⟩
        · split <;> exact ⟨rfl, rfl⟩
    obtain ⟨f, hf⟩ : ∃ f, e.clean = f := ⟨_, rfl⟩
    rw [hf] at hgen hpos hth hc ⊢
    obtain ⟨th, pk, kd, tp, gk, gn, md, tx, ps⟩ := f
    dsimp only at hgen hpos hth hc
    obtain ⟨rfl, rfl⟩ := hth
    have hcl : e.clean = En.mk ((e.thread.toNat : Nat) : Int) false ((kd.toNat : Nat) : Int) ((tp.toNat : Nat) : Int) ((gk.toNat : Nat) : Int) gn ((md.toNat : Nat) : Int) tx ps := by
      rw [hf, show ((e.thread.toNat : Nat) : Int) = e.thread by omega, show ((kd.toNat : Nat) : Int) = kd by omega, show ((tp.toNat : Nat) : Int) = tp by omega, show ((gk.toNat : Nat) : Int) = gk by omega, show ((md.toNat : Nat) : Int) = md by omega]
    rw [← hf, hcl]
    have hk : kd.toNat = 0 ∨ kd.toNat = 1 ∨ kd.toNat = 2 ∨ kd.toNat = 3 ∨ kd.toNat = 4 := by omega
    rcases hk with hk | hk | hk | hk | hk
    · exact lay_0 e _ _ _ _ _ _ _ tx base v bs w hcl (by omega) hk (by omega) (by omega) (by omega) (by omega) hgen hpos hown hbase hlen
    · exact lay_1 e _ _ _ _ _ _ _ tx base v bs w hcl (by omega) hk (by omega) (by omega) (by omega) (by omega) hgen hpos hown hbase hlen
    · exact lay_2 e _ _ _ _ _ _ _ tx base v bs w hcl (by omega) hk (by omega) (by omega) (by omega) (by omega) hgen hpos hown hbase hlen
    · exact lay_3 e _ _ _ _ _ _ _ tx base v bs w hcl (by omega) hk (by omega) (by omega) (by omega) (by omega) hgen hpos hown hbase hlen
    · exact lay_4 e _ _ _ _ _ _ _ tx base v bs w hcl (by omega) hk (by omega) (by omega) (by omega) (by omega) hgen hpos hown hbase hlen

/-- entries that lie somewhere. -/
def EnsAt (w : World) (E : Option Addr) (m cap : Nat) (es : List En) : Prop :=
  es.length = m ∧ m ≤ cap ∧ cap ≤ 9223372036854775807 ∧ (∀ e ∈ es, e.gen < 18446744073709551616 ∧ e.pos < 18446744073709551616) ∧ (0 < m → ∃ b off, E = some ⟨b, off, none⟩ ∧ ∀ i, i < m → ∀ j v, ((es.getD i enZero).vals)[j]? = some v → w.cell? ⟨b, off + (i * 9 + j), none⟩ = some v)
theorem EnsAt.below {w w' : World} {A : Option Addr} {n cap : Nat} {es : List En} (h : EnsAt w A n cap es) (hb : Below w.heap.size w w') : EnsAt w' A n cap es :=
  ⟨h.1, h.2.1, h.2.2.1, h.2.2.2.1, fun h0 => by
    obtain ⟨b, off, e, hc⟩ := h.2.2.2.2 h0
    exact ⟨b, off, e, fun i hi j v hv => kcell hb (hc i hi j v hv)⟩⟩
theorem EnsAt.cells {w : World} {A : Option Addr} {n cap : Nat} {es : List En} (h : EnsAt w A n cap es) {k : Nat} (hk : k < n) {e : En} (he : es.getD k enZero = e) :
    ∃ b off, A = some ⟨b, off, none⟩ ∧ w.cell? ⟨b, off + k * 9, none⟩ = some (.int .i64 e.thread) ∧ w.cell? ⟨b, off + k * 9 + 1, none⟩ = some (.bool e.pick) ∧ w.cell? ⟨b, off + k * 9 + 2, none⟩ = some (.int .i64 e.kind) ∧ w.cell? ⟨b, off + k * 9 + 3, none⟩ = some (.int .i64 e.topic) ∧ w.cell? ⟨b, off + k * 9 + 4, none⟩ = some (.int .i64 e.gk) ∧ w.cell? ⟨b, off + k * 9 + 5, none⟩ = some (.int .u64 e.gen) ∧ w.cell? ⟨b, off + k * 9 + 6, none⟩ = some (.int .i64 e.mode) ∧ w.cell? ⟨b, off + k * 9 + 7, none⟩ = some (.string e.text) ∧ w.cell? ⟨b, off + k * 9 + 8, none⟩ = some (.int .u64 e.pos) := by
  obtain ⟨b, off, e0, hc⟩ := h.2.2.2.2 (by omega)
  subst he
  have g := fun j v hv => hc k hk j v hv
  simp only [← Nat.add_assoc] at g
  exact ⟨b, off, e0, g 0 _ rfl, g 1 _ rfl, g 2 _ rfl, g 3 _ rfl, g 4 _ rfl, g 5 _ rfl, g 6 _ rfl, g 7 _ rfl, g 8 _ rfl⟩

def scriptV (t : Int) (A : Option Addr) (n cap : Nat) (words blocks sweep : Int) (E : Option Addr) (m mcap : Nat) : Value := .agg #[.int .i64 t, .slice A n cap, .int .i64 words, .int .i64 blocks, .int .i64 sweep, .slice E m mcap]
set_option maxRecDepth 100000 in
/-- Put of a conf that may not be. -/
theorem sput_conf (t : Int) (A : Option Addr) (n cap : Nat) (words blocks sweep : Int) (E : Option Addr) (m mcap : Nat) (zs : List Int) (w : World) (hz : IsAt w A n cap zs) (hc : confB t words blocks sweep zs = false) :
    Calls Try.prog 13 #[scriptV t A n cap words blocks sweep E m mcap] w fun r w' => r = .returned (.tuple #[.slice none 0 0, .int .i64 2]) ∧ Below w.heap.size w w' := by
  have HC := Lib.hid (fun W (hW : Below w.heap.size w W) => cright_calls t A n cap words blocks sweep zs W (hz.below hW))
  simp only [hc] at HC
  clear hz hc
  unfold scriptV
  unfold confV at HC
  go_enter Try.func13, Try.ntmps13
  go_wp2_with fail
  refine (HC.out _ (bnew (Below.refl _ _) _)).mono ?_; rintro r w1 ⟨rfl, hb⟩
  have HB := Lib.hid (bseq (bnew (Below.refl _ _) _) hb)
  clear hb
  go_wp2
  go_ret2
  exact ⟨rfl, HB.out⟩
theorem script_cells {w : World} {b : Nat} {ty : TypeId} {v0 v1 v2 v3 v4 v5 : Value} (h : Blk w b ty [v0, v1, v2, v3, v4, v5]) : w.cell? ⟨b, 0, none⟩ = some v0 ∧ w.cell? ⟨b, 1, none⟩ = some v1 ∧ w.cell? ⟨b, 2, none⟩ = some v2 ∧ w.cell? ⟨b, 3, none⟩ = some v3 ∧ w.cell? ⟨b, 4, none⟩ = some v4 ∧ w.cell? ⟨b, 5, none⟩ = some v5 :=
  ⟨h.cell 0, h.cell 1, h.cell 2, h.cell 3, h.cell 4, h.cell 5⟩
def putS (t words blocks sweep : Int) (zs : List Int) (es : List En) : List Nat :=
  putL [t.toNat, zs.length] ++ putL (zs.map Int.toNat) ++ putL [words.toNat, blocks.toNat, sweep.toNat, es.length] ++ es.flatMap (fun e => putE e.clean)
set_option maxRecDepth 100000 in
set_option maxHeartbeats 4000000 in
/-- Put of entries of which one is not right. -/
theorem sput_bad (t : Int) (A : Option Addr) (n cap : Nat) (words blocks sweep : Int) (E : Option Addr) (m mcap : Nat) (zs : List Int) (es : List En) (w : World) (hz : IsAt w A n cap zs) (he : EnsAt w E m mcap es) (hc : confB t words blocks sweep zs = true) (hr : es.all En.rightB = false) :
    Calls Try.prog 13 #[scriptV t A n cap words blocks sweep E m mcap] w fun r w' => r = .returned (.tuple #[.slice none 0 0, .int .i64 2]) ∧ Below w.heap.size w w' := by
  have HC := Lib.hid (fun W (hW : Below w.heap.size w W) => cright_calls t A n cap words blocks sweep zs W (hz.below hW))
  simp only [hc] at HC
  have HE := Lib.hid he
  have HR := Lib.hid hr
  have hm64 : m ≤ 9223372036854775807 := by have := he.2.1; have := he.2.2.1; omega
  clear hz hc he hr
  unfold scriptV
  unfold confV at HC
  go_enter Try.func13, Try.ntmps13
  go_wp2_with fail
  refine (HC.out _ (bnew (Below.refl _ _) _)).mono ?_; rintro r w1 ⟨rfl, hb⟩
  have HB := Lib.hid (bseq (bnew (Below.refl _ _) _) hb)
  have hbl := (Blk.new w 46 [.int .i64 t, .slice A n cap, .int .i64 words, .int .i64 blocks, .int .i64 sweep, .slice E m mcap]).chg (chg_of_below (fun _ => False) hb) (fun h => h)
  have HBL := Lib.hid hbl
  obtain ⟨c0, c1, c2, c3, c4, c5⟩ := script_cells hbl
  clear hb hbl HC
  go_wp2_with fail
  go_loopg [19] m (fun g i wr => ∃ k : Nat, k ≤ m ∧ g = m - k ∧ i = .int .i64 k ∧ Hid ((∀ j, j < k → (es.getD j enZero).rightB = true) ∧ Below w.heap.size w wr))
  case atStart => exact ⟨0, by omega, rfl, rfl, Lib.hid ⟨fun j h => by omega, HB.out⟩⟩
  case round =>
    obtain ⟨k, hk, rfl, rfl, HI⟩ := hrel
    clear HB HBL c0 c1 c2 c3 c4 c5
    by_cases hlt : k < m
    · obtain ⟨e, hek⟩ : ∃ e, es.getD k enZero = e := ⟨_, rfl⟩
      obtain ⟨b, off, rfl, d0, d1, d2, d3, d4, d5, d6, d7, d8⟩ := (HE.out.below HI.out.2).cells hlt hek
      have HEK := Lib.hid hek
      have HRC := fun W => Lib.hid (eright_calls e W)
      obtain ⟨B, hB⟩ : ∃ B, e.rightB = B := ⟨_, rfl⟩
      simp only [hB] at HRC
      have HBB := Lib.hid hB
      clear hek hB
      obtain ⟨th, pk, kd, tp, gk, gn, md, tx, ps⟩ := e
      unfold En.val at HRC
      dsimp only at HRC d0 d1 d2 d3 d4 d5 d6 d7 d8
      go_wp2_with fail
      refine (HRC _).out.mono ?_; rintro r w2 ⟨rfl, hb2⟩
      have HB2 := Lib.hid (bseq (bseq HI.out.2 (bnew (Below.refl _ _) _)) hb2)
      clear hb2 d0 d1 d2 d3 d4 d5 d6 d7 d8
      cases B with
      | false =>
        go_wp2
        go_ret2
        exact ⟨rfl, HB2.out⟩
      | true =>
        have HI2 : Hid ((∀ j, j < k + 1 → (es.getD j enZero).rightB = true) ∧ Below w.heap.size w w2) := Lib.hid ⟨fun j hj => by
          by_cases e : j = k
          · subst e; rw [HEK.out]; exact HBB.out
          · exact HI.out.1 j (by omega), HB2.out⟩
        clear HB2
        go_wp2
        go_roundg (m - (k + 1))
        case measure => omega
        case rel => exact ⟨k + 1, by omega, rfl, by go_num, HI2⟩
    · exfalso
      have h1 := HR.out
      rw [List.all_eq_false] at h1
      obtain ⟨x, hx, hn⟩ := h1
      obtain ⟨j, hj, rfl⟩ := List.getElem_of_mem hx
      have h2 := HI.out.1 j (by rw [HE.out.1] at hj; omega)
      rw [List.getD, List.getElem?_eq_getElem hj] at h2
      exact hn h2
end Go.Proofs.Ytgfingdopelinaa
