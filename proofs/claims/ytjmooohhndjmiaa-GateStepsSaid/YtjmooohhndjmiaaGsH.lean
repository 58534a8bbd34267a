/- GateSteps: small laws; the loops' code. (Printed by genstg.py.) -/
import Derived.Test.YtjmooohhndjmiaaGsR
import Derived.Test.YtjmooohhndjmiaaRgP
import Derived.Test.YtjmooohhndjmiaaGatO
import Derived.Test.YtjmooohhndjmiaaAlS
import Derived.StillTailTactics
import Derived.Carry
import Derived.Deep.DeepCutAuto
import Derived.Deep.CutBlock
import Derived.Deep.LoopGhost
namespace Go.Proofs.Ytjmooohhndjmiaa
open Go.RowKit Go.Deep
set_option linter.unusedSimpArgs false
set_option linter.unusedVariables false

theorem num_cell {w : World} {A : Option Addr} {len cap : Nat} {l : List (List Int)} (h : RowsAt w [.i64] A len cap l) {k : Nat} (hk : k < len) :
    ∃ b off : Nat, ∃ x : Int, A = some ⟨b, off, none⟩ ∧ w.cell? ⟨b, off + k, none⟩ = some (.int .i64 x) := by
  obtain ⟨h1, h2, h3, h4, h5⟩ := h
  obtain ⟨b, off, rfl, hc⟩ := h5 (by omega)
  have hz := h4 (l.getD k []) (by have : k < l.length := by omega
                                  simp [List.getD, this])
  match hl : l.getD k [], hz with
  | [x], _ =>
    have c0 := hc k hk 0 (.int .i64 x) (by rw [hl]; rfl)
    exact ⟨b, off, x, rfl, by simpa using c0⟩
theorem slice_inj {a b n c m d : Nat} (h : Value.slice (some (⟨a, 0, none⟩ : Addr)) n c = .slice (some ⟨b, 0, none⟩) m d) : a = b ∧ n = m ∧ c = d := by
  injection h with h1 h2 h3
  injection h1 with h1
  injection h1 with h1
  exact ⟨h1, h2, h3⟩
theorem gg_ne {w : World} {g gb p : Nat} {ws : List Nat} {ty : TypeId} {cs : List Value} (h : RefAt w g gb ws) (hb : Blk w p ty cs) (ht : ty ≠ 40) : g ≠ p := by
  rintro rfl
  obtain ⟨r, h0⟩ := h.words
  unfold Blk at h0 hb
  rw [hb] at h0
  injection h0 with h0
  injection h0 with _ h0
  exact ht h0
theorem pick_of (z : Int) (n : Nat) (h1 : 1 ≤ n) (h2 : n ≤ 12) : ∃ t : Nat, (wrap64 (z.tmod (n : Int) + (n : Int))).tmod (n : Int) = (t : Int) ∧ t < n := by
  have a1 : -(n : Int) < z.tmod n := by have := Int.lt_tmod_of_pos z (show (0 : Int) < n by omega); omega
  have a2 : z.tmod n < (n : Int) := Int.tmod_lt_of_pos z (by omega)
  have hw : wrap64 (z.tmod (n : Int) + (n : Int)) = z.tmod n + n := by unfold wrap64; omega
  rw [hw]
  obtain ⟨y, hy⟩ : ∃ y : Nat, z.tmod (n : Int) + (n : Int) = y := ⟨(z.tmod (n : Int) + (n : Int)).toNat, by omega⟩
  rw [hy]
  exact ⟨y % n, rfl, Nat.mod_lt _ (by omega)⟩
theorem map_bo_set {es : List Ent} {t : Nat} {e e' : Ent} (he : es[t]? = some e) (hb : e'.bo = e.bo) : (es.set t e').map Ent.bo = es.map Ent.bo := by
  rw [List.map_set]
  apply List.ext_getElem?
  intro u
  rw [List.getElem?_set]
  split
  · rename_i htu; subst htu
    rw [List.getElem?_map, he]
    have := (List.getElem?_eq_some_iff.1 he).1
    simp [this, hb]
  · rfl
theorem oper_append {P : Program} {o : Oper} {a : Act} {w w' : World} {next : Act → World → Prop} {Q : Exit → Act → World → Prop} (s x : Operand) (t : TypeId) (ho : o.op = .call { callee := .builtin .append, args := #[s, x], argTypes := #[t, t] }) {v1 v2 v' : Value}
    (h1 : a.eval s = v1) (h2 : a.eval x = v2) (hr : (Builtin.append_ #[t, t] o.type #[v1, v2]).run P w = .ok v' w') (h : next (a.put o.dst v') w') : o.wp P a w next Q := by
  unfold Oper.wp execOp
  simp only [ho, resolve, invoke, builtin, Sem.run_bind, Sem.run_pure, Result.andThen_ok, List.map_toArray, List.map_cons, List.map_nil, h1, h2, hr]
  exact h
theorem cells30 {W w : World} {χ : Nat → Nat} {m : HMap} {c0 M b bw bb bx gw gb : Nat} {v7 : Value} {g8 n8 cap8 : Nat} {ws ps : List Nat} {es : List Ent} (h : St W w χ m c0 M b bw bb bx gw gb v7 (.slice (some ⟨g8, 0, none⟩) n8 cap8) ws ws ps es) {t bo : Nat} {o : GOp} {r : ROp}
    (he : es[t]? = some ⟨bo, o, r⟩) {cx : Nat} {d0 d1 d2 d3 d4 d5 : Int} (hx : m 5 = some (bx, 34, [.slice (some ⟨gw, 0, none⟩) ws.length cx, .slice (some ⟨gb, 0, none⟩) ws.length ws.length, .int .i64 d0, .int .i64 d1, .int .i64 d2, .int .i64 d3, .int .i64 d4, .int .i64 d5, .int .i64 (-1), .bool false])) : w.cell? ⟨g8, t * 8, none⟩ = some (.int .i64 r.kind) ∧ w.cell? ⟨g8, t * 8 + 1, none⟩ = some (.int .i64 1) ∧ w.cell? ⟨g8, t * 8 + 2, none⟩ = some (.int .i64 0) ∧ w.cell? ⟨g8, t * 8 + 3, none⟩ = some (.int .i64 r.k) ∧ w.cell? ⟨g8, t * 8 + 4, none⟩ = some (.int .i64 r.pc) ∧ w.cell? ⟨g8, t * 8 + 5, none⟩ = some (.int .u64 r.w) ∧ w.cell? ⟨g8, t * 8 + 6, none⟩ = some (.int .u64 r.v) ∧ w.cell? ⟨g8, t * 8 + 7, none⟩ = some (.int .i64 r.code) ∧ w.cell? ⟨bx, 0, none⟩ = some (.slice (some ⟨gw, 0, none⟩) ws.length cx) ∧ w.cell? ⟨bx, 1, none⟩ = some (.slice (some ⟨gb, 0, none⟩) ws.length ws.length) ∧ w.cell? ⟨bx, 2, none⟩ = some (.int .i64 d0) ∧ w.cell? ⟨bx, 3, none⟩ = some (.int .i64 d1) ∧ w.cell? ⟨bx, 4, none⟩ = some (.int .i64 d2) ∧ w.cell? ⟨bx, 5, none⟩ = some (.int .i64 d3) ∧ w.cell? ⟨bx, 6, none⟩ = some (.int .i64 d4) ∧ w.cell? ⟨bx, 7, none⟩ = some (.int .i64 d5) ∧ w.cell? ⟨bx, 8, none⟩ = some (.int .i64 (-1)) ∧ w.cell? ⟨bx, 9, none⟩ = some (.bool false) := by
  obtain ⟨g, cap, cur, hv, hm, _, _, _, hc⟩ := h.pos8 (by have := (List.getElem?_eq_some_iff.1 he).1; omega)
  obtain ⟨rfl, _, _⟩ := slice_inj hv
  have c8 := cell8 h.hp hm hc he
  have cx := (h.hp.blk hx).cell
  exact ⟨c8 0 (by decide), c8 1 (by decide), c8 2 (by decide), c8 3 (by decide), c8 4 (by decide), c8 5 (by decide), c8 6 (by decide), c8 7 (by decide), cx 0, cx 1, cx 2, cx 3, cx 4, cx 5, cx 6, cx 7, cx 8, cx 9⟩
theorem cells31 {W w : World} {χ : Nat → Nat} {m : HMap} {c0 M b bw bb bx gw gb : Nat} {v8 : Value} {g7 n7 cap7 : Nat} {ws xs ps : List Nat} {es : List Ent} (h : St W w χ m c0 M b bw bb bx gw gb (.slice (some ⟨g7, 0, none⟩) n7 cap7) v8 ws xs ps es) {t bo p : Nat} (hps : ps[t]? = some bo) {ty : TypeId} {c0' c1 c2 c3 c4 c5 c6 c7 : Value}
    (hp : Blk w p ty [c0', c1, c2, c3, c4, c5, c6, c7]) : w.cell? ⟨g7, t, none⟩ = some (.pointer (some ⟨bo, 0, none⟩)) ∧ w.cell? ⟨p, 4, none⟩ = some c4 := by
  obtain ⟨g, cap, cur, hv, hm, _, _, _, hc⟩ := h.pos7 (by have := (List.getElem?_eq_some_iff.1 hps).1; omega)
  obtain ⟨rfl, _, _⟩ := slice_inj hv
  exact ⟨cell7 h.hp hm hc hps, hp.cell 4⟩
def blockAt (n : Nat) : Code → Option Code
  | .block m c => cond (Nat.beq m n) (some (.block m c)) (blockAt n c)
  | .seq a b => match blockAt n a with
    | some c => some c
    | none => blockAt n b
  | .loop c => blockAt n c
  | .cond _ a b => match blockAt n a with
    | some c => some c
    | none => blockAt n b
  | _ => none
noncomputable def blk0 : Code := ((Try.f3.body.bind (blockAt 0)).getD .skip)
noncomputable def blk2 : Code := ((Try.f3.body.bind (blockAt 2)).getD .skip)
end Go.Proofs.Ytjmooohhndjmiaa
