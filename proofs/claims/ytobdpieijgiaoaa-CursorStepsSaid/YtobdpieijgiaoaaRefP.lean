/- the reference's operation (sluicewayref17): Step, whole. -/
import Derived.Test.YtobdpieijgiaoaaRefOA
import Derived.Test.YtobdpieijgiaoaaRefOB
import Derived.Test.YtobdpieijgiaoaaRefOC
import Derived.Test.YtobdpieijgiaoaaRefOD
namespace Go.Proofs.Ytobdpieijgiaoaa
open Go.RowKit Go.Deep

set_option maxHeartbeats 4000000 in
set_option maxRecDepth 100000 in
theorem refop3 (gw cw gb : Nat) (c0 c1 c2 c3 c4 c5 : Int) (ws : List Nat) (a s m k p g code : Nat) (sp : Option Addr) (n cap : Nat) (w : World) (hm : RefAt w gw gb ws) :
    Calls Try.prog 22 #[.agg #[.int .i64 a, .int .i64 s, .int .i64 m, .slice sp n cap, .int .i64 3, .int .i64 k, .int .u64 p, .int .u64 g, .int .i64 code],
      .agg #[.slice (some ⟨gw, 0, none⟩) ws.length cw, .slice (some ⟨gb, 0, none⟩) ws.length ws.length, .int .i64 c0, .int .i64 c1, .int .i64 c2, .int .i64 c3, .int .i64 c4, .int .i64 c5, .int .i64 (-1), .bool false]] w fun e w' =>
      RefTold17 w gw gb ws [.int .i64 a, .int .i64 s, .int .i64 m, .slice sp n cap, .int .i64 3, .int .i64 k, .int .u64 p, .int .u64 g, .int .i64 code] e w' := by
  have HM := Lib.hid hm
  clear hm
  obtain ⟨L, hL⟩ : ∃ L, ws.length = L := ⟨_, rfl⟩
  rw [hL]
  have HL := Lib.hid hL
  clear hL
  go_enter Try.func22, Try.ntmps22
  go_wp2
  go_region
  all_goals go_wp2
  refine bodyPost_ret (v := .tuple #[.agg #[.int .i64 a, .int .i64 s, .int .i64 m, .slice sp n cap, .int .i64 3, .int .i64 k, .int .u64 p, .int .u64 g, .int .i64 code], .agg #[.slice (some ⟨gw, 0, none⟩) L cw, .slice (some ⟨gb, 0, none⟩) L L, .int .i64 c0, .int .i64 c1, .int .i64 c2, .int .i64 c3, .int .i64 c4, .int .i64 c5, .int .i64 (-1), .bool false]]) (by simp [results, Try.results22, go_sem]) rfl ⟨gw, cw, c0, c1, c2, c3, c4, c5, by rw [HL.out], ?_, .inl rfl, ?_⟩
  · exact HM.out.below (bnew (bnew (bnew (bnew (bnew (Below.refl _ _) _) _) _) _) _).drew
  · exact (bnew (bnew (bnew (bnew (bnew (Below.refl _ _) _) _) _) _) _).drew

def refVals (o : NOp) (sp : Option Addr) (n cap : Nat) : List Value := [.int .i64 o.a, .int .i64 o.s, .int .i64 o.m, .slice sp n cap, .int .i64 o.pc, .int .i64 o.k, .int .u64 o.p, .int .u64 o.g, .int .i64 o.code]

/-- the reference's step is the machine's. -/
theorem refop_calls (gw cw gb : Nat) (c0 c1 c2 c3 c4 c5 : Int) (ws : List Nat) (o : NOp) (sp : Option Addr) (n cap : Nat) (w : World) (hm : RefAt w gw gb ws) (ho : NOk o ws.length) (hn : o.words.length = n) (hcode : o.pc ≤ 2 → o.code = 0)
    (hw : 0 < n → ∃ bq oq, sp = some ⟨bq, oq, none⟩ ∧ ∀ j, j < n → w.cell? ⟨bq, oq + j, none⟩ = some (.int .i64 (o.words.getD j 0 : Nat))) :
    Calls Try.prog 22 #[.agg #[.int .i64 o.a, .int .i64 o.s, .int .i64 o.m, .slice sp n cap, .int .i64 o.pc, .int .i64 o.k, .int .u64 o.p, .int .u64 o.g, .int .i64 o.code],
      .agg #[.slice (some ⟨gw, 0, none⟩) ws.length cw, .slice (some ⟨gb, 0, none⟩) ws.length ws.length, .int .i64 c0, .int .i64 c1, .int .i64 c2, .int .i64 c3, .int .i64 c4, .int .i64 c5, .int .i64 (-1), .bool false]] w fun e w' =>
      RefTold17 w gw gb (stepN o ws).2 (refVals (stepN o ws).1 sp n cap) e w' := by
  obtain ⟨a, s, m, words, pc, k, p, g, code⟩ := o
  have ha : a < ws.length := ho.a
  have hs : s ≤ 1024 := ho.s
  have hmm : m ≤ 1024 := ho.m
  have hp : p < 18446744073709551616 := ho.p
  have hg : g < 18446744073709551616 := ho.g
  have hl : n ≤ 64 := by rw [← hn]; exact ho.l
  dsimp only at hn hcode hw ⊢
  match pc, ho.pc with
  | 0, _ =>
    obtain rfl : code = 0 := hcode (Nat.zero_le _)
    by_cases h0 : m = 0
    · have e : stepN ⟨a, s, m, words, 0, k, p, g, 0⟩ ws = (⟨a, s, m, words, 3, 0, ws.getD a 0, g, 0⟩, ws) := by simp [stepN, h0]
      rw [e]
      rcases Nat.eq_zero_or_pos n with h | h
      · exact refop0a gw cw gb c0 c1 c2 c3 c4 c5 ws a s m k p g 0 sp n cap w hm ha h0 h
      · exact refop0b gw cw gb c0 c1 c2 c3 c4 c5 ws a s m k p g 0 sp n cap w hm ha h0 h
    · rcases Nat.eq_zero_or_pos n with h | h
      · have e : stepN ⟨a, s, m, words, 0, k, p, g, 0⟩ ws = (⟨a, s, m, words, 2, 0, ws.getD a 0, g, 0⟩, ws) := by simp [stepN, h0, List.eq_nil_of_length_eq_zero (hn.trans h)]
        rw [e]
        exact refop0c gw cw gb c0 c1 c2 c3 c4 c5 ws a s m k p g 0 sp n cap w hm ha (by omega) h
      · have e : stepN ⟨a, s, m, words, 0, k, p, g, 0⟩ ws = (⟨a, s, m, words, 1, 0, ws.getD a 0, g, 0⟩, ws) := by
          have : ¬ words = [] := by intro h'; subst h'; simp at hn; omega
          simp [stepN, h0, this]
        rw [e]
        exact refop0d gw cw gb c0 c1 c2 c3 c4 c5 ws a s m k p g 0 sp n cap w hm ha (by omega) h
  | 1, _ =>
    obtain rfl : code = 0 := hcode (by decide)
    have hk : k < n := by rw [← hn]; exact ho.k rfl
    obtain ⟨bq, oq, rfl, hcw⟩ := hw (by omega)
    obtain ⟨wd, hwd⟩ : ∃ wd, words.getD k 0 = wd := ⟨_, rfl⟩
    have hcw := hcw k hk
    rw [hwd] at hcw
    have hwl : wd < ws.length := by rw [← hwd]; exact ho.w _ (by simp [List.getD, show k < words.length by omega])
    have key : ∀ G, askG k (ws.getD wd 0) g = G → stepN ⟨a, s, m, words, 1, k, p, g, 0⟩ ws = if k + 1 < n then (⟨a, s, m, words, 1, k + 1, p, G, 0⟩, ws) else if heldN s m p G then (⟨a, s, m, words, 3, k + 1, 0, G, 15⟩, ws) else (⟨a, s, m, words, 2, k + 1, p, G, 0⟩, ws) := by
      intro G hG
      simp only [stepN, hwd, hG, hn]
    have held : ∀ G, heldN s m p G = if p < G then false else if s < p - G then true else decide (s - (p - G) < m) := by
      intro G
      unfold heldN
      by_cases h1 : p < G
      · rw [if_pos h1, decide_eq_true h1]; rfl
      · rw [if_neg h1, decide_eq_false h1]
        by_cases h2 : s < p - G
        · rw [if_pos h2, decide_eq_true h2]; rfl
        · rw [if_neg h2, decide_eq_false h2, Bool.false_or, Bool.not_false, Bool.true_and]
    by_cases hk0 : k = 0
    · rw [key (ws.getD wd 0) (by unfold askG; rw [if_pos (.inl hk0)])]
      by_cases h1 : k + 1 < n
      · rw [if_pos h1]; exact refop1ad gw cw gb c0 c1 c2 c3 c4 c5 ws a s m k p g 0 n cap w hm wd bq oq hcw hwl hk hl hs hmm hp hg hk0 h1
      · rw [if_neg h1, held]
        by_cases h2 : p < ws.getD wd 0
        · simp only [h2, if_true, Bool.false_eq_true, if_false]; exact refop1ae gw cw gb c0 c1 c2 c3 c4 c5 ws a s m k p g 0 n cap w hm wd bq oq hcw hwl hk hl hs hmm hp hg hk0 h1 h2
        · rw [if_neg h2]
          by_cases h3 : s < p - ws.getD wd 0
          · simp only [h3, if_true]; exact refop1af gw cw gb c0 c1 c2 c3 c4 c5 ws a s m k p g 0 n cap w hm wd bq oq hcw hwl hk hl hs hmm hp hg hk0 h1 h2 h3
          · rw [if_neg h3]
            by_cases h4 : s - (p - ws.getD wd 0) < m
            · simp only [h4, decide_true, if_true]; exact refop1ag gw cw gb c0 c1 c2 c3 c4 c5 ws a s m k p g 0 n cap w hm wd bq oq hcw hwl hk hl hs hmm hp hg hk0 h1 h2 h3 h4
            · simp only [h4, decide_false, Bool.false_eq_true, if_false]; exact refop1ah gw cw gb c0 c1 c2 c3 c4 c5 ws a s m k p g 0 n cap w hm wd bq oq hcw hwl hk hl hs hmm hp hg hk0 h1 h2 h3 h4
    · by_cases hx : ws.getD wd 0 < g
      · rw [key (ws.getD wd 0) (by unfold askG; rw [if_pos (.inr hx)])]
        by_cases h1 : k + 1 < n
        · rw [if_pos h1]; exact refop1bd gw cw gb c0 c1 c2 c3 c4 c5 ws a s m k p g 0 n cap w hm wd bq oq hcw hwl hk hl hs hmm hp hg hk0 hx h1
        · rw [if_neg h1, held]
          by_cases h2 : p < ws.getD wd 0
          · simp only [h2, if_true, Bool.false_eq_true, if_false]; exact refop1be gw cw gb c0 c1 c2 c3 c4 c5 ws a s m k p g 0 n cap w hm wd bq oq hcw hwl hk hl hs hmm hp hg hk0 hx h1 h2
          · rw [if_neg h2]
            by_cases h3 : s < p - ws.getD wd 0
            · simp only [h3, if_true]; exact refop1bf gw cw gb c0 c1 c2 c3 c4 c5 ws a s m k p g 0 n cap w hm wd bq oq hcw hwl hk hl hs hmm hp hg hk0 hx h1 h2 h3
            · rw [if_neg h3]
              by_cases h4 : s - (p - ws.getD wd 0) < m
              · simp only [h4, decide_true, if_true]; exact refop1bg gw cw gb c0 c1 c2 c3 c4 c5 ws a s m k p g 0 n cap w hm wd bq oq hcw hwl hk hl hs hmm hp hg hk0 hx h1 h2 h3 h4
              · simp only [h4, decide_false, Bool.false_eq_true, if_false]; exact refop1bh gw cw gb c0 c1 c2 c3 c4 c5 ws a s m k p g 0 n cap w hm wd bq oq hcw hwl hk hl hs hmm hp hg hk0 hx h1 h2 h3 h4
      · rw [key g (by unfold askG; rw [if_neg (fun h => h.elim hk0 hx)])]
        by_cases h1 : k + 1 < n
        · rw [if_pos h1]; exact refop1cd gw cw gb c0 c1 c2 c3 c4 c5 ws a s m k p g 0 n cap w hm wd bq oq hcw hwl hk hl hs hmm hp hg hk0 hx h1
        · rw [if_neg h1, held]
          by_cases h2 : p < g
          · simp only [h2, if_true, Bool.false_eq_true, if_false]; exact refop1ce gw cw gb c0 c1 c2 c3 c4 c5 ws a s m k p g 0 n cap w hm wd bq oq hcw hwl hk hl hs hmm hp hg hk0 hx h1 h2
          · rw [if_neg h2]
            by_cases h3 : s < p - g
            · simp only [h3, if_true]; exact refop1cf gw cw gb c0 c1 c2 c3 c4 c5 ws a s m k p g 0 n cap w hm wd bq oq hcw hwl hk hl hs hmm hp hg hk0 hx h1 h2 h3
            · rw [if_neg h3]
              by_cases h4 : s - (p - g) < m
              · simp only [h4, decide_true, if_true]; exact refop1cg gw cw gb c0 c1 c2 c3 c4 c5 ws a s m k p g 0 n cap w hm wd bq oq hcw hwl hk hl hs hmm hp hg hk0 hx h1 h2 h3 h4
              · simp only [h4, decide_false, Bool.false_eq_true, if_false]; exact refop1ch gw cw gb c0 c1 c2 c3 c4 c5 ws a s m k p g 0 n cap w hm wd bq oq hcw hwl hk hl hs hmm hp hg hk0 hx h1 h2 h3 h4
  | 2, _ =>
    obtain rfl : code = 0 := hcode (Nat.le_refl _)
    by_cases he : ws.getD a 0 = p
    · have e : stepN ⟨a, s, m, words, 2, k, p, g, 0⟩ ws = (⟨a, s, m, words, 3, k, p, g, 0⟩, ws.set a ((p + m) % 18446744073709551616)) := by simp only [stepN, he, if_true]
      rw [e]
      exact refop2a gw cw gb c0 c1 c2 c3 c4 c5 ws a s m k p g 0 sp n cap w hm ha hp hmm he
    · have e : stepN ⟨a, s, m, words, 2, k, p, g, 0⟩ ws = (⟨a, s, m, words, 0, k, p, g, 0⟩, ws) := by simp only [stepN, he, if_false]
      rw [e]
      exact refop2b gw cw gb c0 c1 c2 c3 c4 c5 ws a s m k p g 0 sp n cap w hm ha hp hmm he
  | 3, _ => exact refop3 gw cw gb c0 c1 c2 c3 c4 c5 ws a s m k p g code sp n cap w hm
end Go.Proofs.Ytobdpieijgiaoaa
