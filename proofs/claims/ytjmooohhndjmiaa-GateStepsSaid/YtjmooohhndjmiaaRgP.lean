/- the reference's gate's Step is the machine's. -/
import Derived.Test.YtjmooohhndjmiaaRgSA
import Derived.Test.YtjmooohhndjmiaaRgSB
import Derived.Test.YtjmooohhndjmiaaRgSC
import Derived.Test.YtjmooohhndjmiaaRgSD
import Derived.Test.YtjmooohhndjmiaaRgSE
import Derived.Test.YtjmooohhndjmiaaRgR
namespace Go.Proofs.Ytjmooohhndjmiaa
open Go.RowKit Go.Deep
set_option linter.unusedVariables false
set_option linter.unusedSimpArgs false

set_option maxHeartbeats 4000000 in
set_option maxRecDepth 100000 in
theorem rstep6 (gw cw gb : Nat) (c0 c1 c2 c3 c4 c5 : Int) (ws : List Nat) (kd : Nat) (k : Int) (w0 v0 cd : Nat) (w : World) (hm : RefAt w gw gb ws) :
    Calls Try.prog 11 #[.agg #[.int .i64 kd, .int .i64 1, .int .i64 0, .int .i64 k, .int .i64 6, .int .u64 w0, .int .u64 v0, .int .i64 cd],
      .agg #[.slice (some ⟨gw, 0, none⟩) ws.length cw, .slice (some ⟨gb, 0, none⟩) ws.length ws.length, .int .i64 c0, .int .i64 c1, .int .i64 c2, .int .i64 c3, .int .i64 c4, .int .i64 c5, .int .i64 (-1), .bool false]] w fun e w' =>
      RefTold19 w gw gb ws [.int .i64 kd, .int .i64 1, .int .i64 0, .int .i64 k, .int .i64 6, .int .u64 w0, .int .u64 v0, .int .i64 cd] e w' := by
  have HM := Lib.hid hm
  clear hm
  obtain ⟨L, hL⟩ : ∃ L, ws.length = L := ⟨_, rfl⟩
  rw [hL]
  have HL := Lib.hid hL
  clear hL
  go_enter Try.func11, Try.ntmps11
  go_wp2
  go_region
  all_goals go_wp2
  refine bodyPost_ret (v := .tuple #[.agg #[.int .i64 kd, .int .i64 1, .int .i64 0, .int .i64 k, .int .i64 6, .int .u64 w0, .int .u64 v0, .int .i64 cd], .agg #[.slice (some ⟨gw, 0, none⟩) L cw, .slice (some ⟨gb, 0, none⟩) L L, .int .i64 c0, .int .i64 c1, .int .i64 c2, .int .i64 c3, .int .i64 c4, .int .i64 c5, .int .i64 (-1), .bool false]]) (by simp [results, Try.results11, go_sem]) rfl ⟨gw, cw, c0, c1, c2, c3, c4, c5, by rw [HL.out], ?_, .inl rfl, ?_⟩
  · exact HM.out.below (bnew (bnew (bnew (bnew (Below.refl _ _) _) _) _) _).drew
  · exact (bnew (bnew (bnew (bnew (Below.refl _ _) _) _) _) _).drew

theorem rnext_on : ∀ M, M < 5 → ∀ x, x < 16 → ∀ j, j < 5 → x < 2 ^ M → j ≤ M → rnext x j = if nextD x (M - j) j < M then (nextD x (M - j) j : Int) else -1 := by decide +kernel
/-- a step of the reference's operation. -/
theorem rstep_calls (ws : List Nat) (M : Nat) (o : GOp) (r : ROp) (hl : ws.length = 6) (hM : 1 ≤ M ∧ M ≤ 4) (hmask : ws.getD 1 0 < 2 ^ M) (hi : GIn M o) (hx : GX M o) (hr : GRel o r) :
    ∃ r', GRel (gstep 1 M 0 o ws).1 r' ∧ ∀ (gw cw gb : Nat) (c0 c1 c2 c3 c4 c5 : Int) (w : World), RefAt w gw gb ws → Calls Try.prog 11 #[.agg #[.int .i64 r.kind, .int .i64 1, .int .i64 0, .int .i64 r.k, .int .i64 r.pc, .int .u64 r.w, .int .u64 r.v, .int .i64 r.code],
      .agg #[.slice (some ⟨gw, 0, none⟩) ws.length cw, .slice (some ⟨gb, 0, none⟩) ws.length ws.length, .int .i64 c0, .int .i64 c1, .int .i64 c2, .int .i64 c3, .int .i64 c4, .int .i64 c5, .int .i64 (-1), .bool false]] w fun e w' => RefTold19 w gw gb (gstep 1 M 0 o ws).2 r'.vals e w' := by
  obtain ⟨kind, k, pc, wd, v, code⟩ := o
  obtain ⟨rk, rkk, rpc, rw', rv, rcode⟩ := r
  obtain ⟨e1, e2, e3, e4, e5⟩ := hr
  dsimp only at e1 e2 e3 e4 e5
  subst e1 e2 e3 e4
  have hkd := hi.kd
  have hpc := hi.pc
  have hkM := hi.k
  have hv := hi.v
  have hwd := hi.wd
  unfold GX at hx
  dsimp only at hkd hpc hkM hv hwd hx
  have h1l : 1 < ws.length := by omega
  have h0l : 0 < ws.length := by omega
  by_cases h6 : rpc = 6
  · subst h6
    refine ⟨⟨rk, rkk, 6, rw', rv, rcode⟩, ?_, ?_⟩
    · unfold gstep; rw [if_pos rfl]; exact ⟨rfl, rfl, rfl, rfl, fun h => absurd h (Nat.lt_irrefl 6)⟩
    · intro gw cw gb c0 c1 c2 c3 c4 c5 w hm
      have h := rstep6 gw cw gb c0 c1 c2 c3 c4 c5 ws rk rkk rw' rv rcode w hm
      unfold gstep
      rw [if_pos rfl]
      exact h
  · have h6' : rpc < 6 := by omega
    obtain ⟨g1, g2, g3⟩ := e5 h6'
    subst g1 g2
    have hk := hkM h6'
    have hk8 : k < 8 := by omega
    have hkl : 2 + k < ws.length := by omega
    have hm16 := pow_le16 hM.2 hmask
    obtain ⟨x, hxx⟩ : ∃ x, ws.getD 1 0 = x := ⟨_, rfl⟩
    rcases (show rk = 0 ∨ rk = 1 ∨ rk = 2 by omega) with rfl | rfl | rfl
    · match rpc, h6' with
      | 0, _ =>
        cases hb : x.testBit k
        · refine ⟨⟨0, k, 1, rw', rv, 0⟩, ?_, ?_⟩
          · simp only [gstep, hxx, hb]; exact ⟨rfl, rfl, rfl, rfl, fun _ => ⟨rfl, rfl, fun h => by simp at h⟩⟩
          · intro gw cw gb c0 c1 c2 c3 c4 c5 w hm
            have h := rstep00b gw cw gb c0 c1 c2 c3 c4 c5 ws k rw' rv w hm hk8 x hxx h1l hb
            simp only [gstep, hxx, hb]; exact h
        · refine ⟨⟨0, k, 6, rw', 0, 14⟩, ?_, ?_⟩
          · simp only [gstep, hxx, hb]; exact ⟨rfl, rfl, rfl, rfl, fun h => absurd h (Nat.lt_irrefl 6)⟩
          · intro gw cw gb c0 c1 c2 c3 c4 c5 w hm
            have h := rstep00a gw cw gb c0 c1 c2 c3 c4 c5 ws k rw' rv w hm hk8 x hxx h1l hb
            simp only [gstep, hxx, hb]; exact h
      | 1, _ =>
        obtain ⟨y, hy⟩ : ∃ y, ws.getD 0 0 = y := ⟨_, rfl⟩
        refine ⟨⟨0, k, 2, rw', y, 0⟩, ?_, ?_⟩
        · simp only [gstep, hy]; exact ⟨rfl, rfl, rfl, rfl, fun _ => ⟨rfl, rfl, fun h => by simp at h⟩⟩
        · intro gw cw gb c0 c1 c2 c3 c4 c5 w hm
          cases hb : y.testBit k
          · have h := rstep01b gw cw gb c0 c1 c2 c3 c4 c5 ws k rw' rv w hm hk8 y hy h0l hb
            simp only [gstep, hy]; exact h
          · have h := rstep01a gw cw gb c0 c1 c2 c3 c4 c5 ws k rw' rv w hm hk8 y hy h0l hb
            simp only [gstep, hy]; exact h
      | 2, _ =>
        refine ⟨⟨0, k, 3, rw', rv, 0⟩, ⟨rfl, rfl, rfl, rfl, fun _ => ⟨rfl, rfl, fun h => by rcases h with ⟨h, _⟩ | ⟨h, _⟩; exact absurd (show (0 : Nat) = 1 from h) (by decide); exact absurd (show (0 : Nat) = 2 from h) (by decide)⟩⟩, ?_⟩
        exact fun gw cw gb c0 c1 c2 c3 c4 c5 w hm => rstep02 gw cw gb c0 c1 c2 c3 c4 c5 ws k rw' rv w hm hk8 hkl hv
      | 3, _ =>
        cases hb : x.testBit k
        · refine ⟨⟨0, k, 4, rw', rv, 0⟩, ?_, ?_⟩
          · simp only [gstep, hxx, hb]; exact ⟨rfl, rfl, rfl, rfl, fun _ => ⟨rfl, rfl, fun h => by simp at h⟩⟩
          · intro gw cw gb c0 c1 c2 c3 c4 c5 w hm
            have h := rstep03b gw cw gb c0 c1 c2 c3 c4 c5 ws k rw' rv w hm hk8 x hxx h1l hb
            simp only [gstep, hxx, hb]; exact h
        · refine ⟨⟨0, k, 6, rw', 0, 14⟩, ?_, ?_⟩
          · simp only [gstep, hxx, hb]; exact ⟨rfl, rfl, rfl, rfl, fun h => absurd h (Nat.lt_irrefl 6)⟩
          · intro gw cw gb c0 c1 c2 c3 c4 c5 w hm
            have h := rstep03a gw cw gb c0 c1 c2 c3 c4 c5 ws k rw' rv w hm hk8 x hxx h1l hb
            simp only [gstep, hxx, hb]; exact h
      | 4, _ =>
        obtain ⟨y, hy⟩ : ∃ y, ws.getD 0 0 = y := ⟨_, rfl⟩
        refine ⟨⟨0, k, 5, rw', y, 0⟩, ?_, ?_⟩
        · simp only [gstep, hy]; exact ⟨rfl, rfl, rfl, rfl, fun _ => ⟨rfl, rfl, fun h => by simp at h⟩⟩
        · intro gw cw gb c0 c1 c2 c3 c4 c5 w hm
          cases hb : y.testBit k
          · have h := rstep04b gw cw gb c0 c1 c2 c3 c4 c5 ws k rw' rv w hm hk8 y hy h0l hb
            simp only [gstep, hy]; exact h
          · have h := rstep04a gw cw gb c0 c1 c2 c3 c4 c5 ws k rw' rv w hm hk8 y hy h0l hb
            simp only [gstep, hy]; exact h
      | 5, _ =>
        refine ⟨⟨0, k, 6, rw', rv, 0⟩, ⟨rfl, rfl, rfl, rfl, fun h => absurd h (Nat.lt_irrefl 6)⟩, ?_⟩
        exact fun gw cw gb c0 c1 c2 c3 c4 c5 w hm => rstep05 gw cw gb c0 c1 c2 c3 c4 c5 ws k rw' rv w hm hk8 hkl hv
    · rcases hpc.2.1 rfl with rfl | rfl | rfl
      · cases hb : x.testBit k
        · refine ⟨⟨1, k, 6, rw', 0, 13⟩, ?_, ?_⟩
          · simp only [gstep, hxx, hb]; exact ⟨rfl, rfl, rfl, rfl, fun h => absurd h (Nat.lt_irrefl 6)⟩
          · intro gw cw gb c0 c1 c2 c3 c4 c5 w hm
            have h := rstep10a gw cw gb c0 c1 c2 c3 c4 c5 ws k rw' rv w hm hk8 x hxx h1l hb
            simp only [gstep, hxx, hb]; exact h
        · refine ⟨⟨1, k, 1, x, rv, 0⟩, ?_, ?_⟩
          · simp only [gstep, hxx, hb]; exact ⟨rfl, rfl, rfl, rfl, fun _ => ⟨rfl, rfl, fun _ => rfl⟩⟩
          · intro gw cw gb c0 c1 c2 c3 c4 c5 w hm
            have h := rstep10b gw cw gb c0 c1 c2 c3 c4 c5 ws k rw' rv w hm hk8 x hxx h1l hb
            simp only [gstep, hxx, hb]; exact h
      · obtain rfl := g3 (.inl ⟨rfl, rfl⟩)
        have hw16 := pow_le16 hM.2 (hx.1 (.inl ⟨rfl, rfl⟩))
        obtain ⟨b1, b2⟩ := bit_sub rw' hw16 k (by omega) (hx.2 ⟨rfl, rfl⟩)
        by_cases he : ws.getD 1 0 = rw'
        · refine ⟨⟨1, k, 6, rw', 0, 0⟩, ?_, ?_⟩
          · simp only [gstep, he]; exact ⟨rfl, rfl, rfl, rfl, fun h => absurd h (Nat.lt_irrefl 6)⟩
          · intro gw cw gb c0 c1 c2 c3 c4 c5 w hm
            have h := rstep11a gw cw gb c0 c1 c2 c3 c4 c5 ws k rw' rv w hm hk8 h1l hwd b2 he
            rw [b1] at h
            simp only [gstep, he]; exact h
        · refine ⟨⟨1, k, 0, rw', rv, 0⟩, ?_, ?_⟩
          · simp only [gstep, he]; exact ⟨rfl, rfl, rfl, rfl, fun _ => ⟨rfl, rfl, fun h => by simp at h⟩⟩
          · intro gw cw gb c0 c1 c2 c3 c4 c5 w hm
            have h := rstep11b gw cw gb c0 c1 c2 c3 c4 c5 ws k rw' rv w hm hk8 h1l hwd b2 he
            simp only [gstep, he]; exact h
      · exact absurd rfl h6
    · rcases hpc.2.2 rfl with rfl | rfl | rfl
      · have hn := rnext_on M (by omega) x (by rw [← hxx]; exact hm16) 0 (by decide) (by rw [← hxx]; exact hmask) (by omega)
        by_cases hlt : nextD x (M - 0) 0 < M
        · rw [if_pos hlt] at hn
          refine ⟨⟨2, nextD x (M - 0) 0, 2, x, rv, 0⟩, ?_, ?_⟩
          · simp only [gstep, GOp.on, hxx, hlt]; exact ⟨rfl, rfl, rfl, rfl, fun _ => ⟨rfl, rfl, fun _ => rfl⟩⟩
          · intro gw cw gb c0 c1 c2 c3 c4 c5 w hm
            have h := rstep20a gw cw gb c0 c1 c2 c3 c4 c5 ws k rw' rv w hm hk8 x hxx h1l _ hn
            simp only [gstep, GOp.on, hxx, hlt]; exact h
        · rw [if_neg hlt] at hn
          refine ⟨⟨2, -1, 6, x, rv, 0⟩, ?_, ?_⟩
          · simp only [gstep, GOp.on, hxx, hlt]; exact ⟨rfl, rfl, rfl, rfl, fun h => absurd h (Nat.lt_irrefl 6)⟩
          · intro gw cw gb c0 c1 c2 c3 c4 c5 w hm
            have h := rstep20b gw cw gb c0 c1 c2 c3 c4 c5 ws k rw' rv w hm hk8 x hxx h1l hn
            simp only [gstep, GOp.on, hxx, hlt]; exact h
      · obtain rfl := g3 (.inr ⟨rfl, rfl⟩)
        have hwM := hx.1 (.inr ⟨rfl, rfl⟩)
        have hw16 := pow_le16 hM.2 hwM
        have hn := rnext_on M (by omega) rw' hw16 (k + 1) (by omega) hwM (by omega)
        obtain ⟨y, hy⟩ : ∃ y, ws.getD (2 + k) 0 = y := ⟨_, rfl⟩
        have hy2 : ws.getD (1 + 1 + k) 0 = y := hy
        by_cases hlt : nextD rw' (M - (k + 1)) (k + 1) < M
        · rw [if_pos hlt] at hn
          by_cases hmn : y < rv
          · have emn : min rv y = y := by omega
            refine ⟨⟨2, nextD rw' (M - (k + 1)) (k + 1), 2, rw', y, 0⟩, ?_, ?_⟩
            · simp only [gstep, GOp.on, hy2, hlt, emn]; exact ⟨rfl, rfl, rfl, rfl, fun _ => ⟨rfl, rfl, fun _ => rfl⟩⟩
            · intro gw cw gb c0 c1 c2 c3 c4 c5 w hm
              have h := rstep22ca gw cw gb c0 c1 c2 c3 c4 c5 ws k rw' rv w hm hk8 y hy hkl hwd hmn _ hn
              simp only [gstep, GOp.on, hy2, hlt, emn]; exact h
          · have emn : min rv y = rv := by omega
            refine ⟨⟨2, nextD rw' (M - (k + 1)) (k + 1), 2, rw', rv, 0⟩, ?_, ?_⟩
            · simp only [gstep, GOp.on, hy2, hlt, emn]; exact ⟨rfl, rfl, rfl, rfl, fun _ => ⟨rfl, rfl, fun _ => rfl⟩⟩
            · intro gw cw gb c0 c1 c2 c3 c4 c5 w hm
              have h := rstep22da gw cw gb c0 c1 c2 c3 c4 c5 ws k rw' rv w hm hk8 y hy hkl hwd hmn _ hn
              simp only [gstep, GOp.on, hy2, hlt, emn]; exact h
        · rw [if_neg hlt] at hn
          by_cases hmn : y < rv
          · have emn : min rv y = y := by omega
            refine ⟨⟨2, -1, 6, rw', y, 0⟩, ?_, ?_⟩
            · simp only [gstep, GOp.on, hy2, hlt, emn]; exact ⟨rfl, rfl, rfl, rfl, fun h => absurd h (Nat.lt_irrefl 6)⟩
            · intro gw cw gb c0 c1 c2 c3 c4 c5 w hm
              have h := rstep22cb gw cw gb c0 c1 c2 c3 c4 c5 ws k rw' rv w hm hk8 y hy hkl hwd hmn hn
              simp only [gstep, GOp.on, hy2, hlt, emn]; exact h
          · have emn : min rv y = rv := by omega
            refine ⟨⟨2, -1, 6, rw', rv, 0⟩, ?_, ?_⟩
            · simp only [gstep, GOp.on, hy2, hlt, emn]; exact ⟨rfl, rfl, rfl, rfl, fun h => absurd h (Nat.lt_irrefl 6)⟩
            · intro gw cw gb c0 c1 c2 c3 c4 c5 w hm
              have h := rstep22db gw cw gb c0 c1 c2 c3 c4 c5 ws k rw' rv w hm hk8 y hy hkl hwd hmn hn
              simp only [gstep, GOp.on, hy2, hlt, emn]; exact h
      · exact absurd rfl h6
end Go.Proofs.Ytjmooohhndjmiaa
