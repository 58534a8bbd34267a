/- opening of arguments: structs of numbers by value, slices of numbers and of structs of numbers; small laws on worlds. Generic: no program in sight. -/
import Derived.Deep.Slices
import Derived.Deep.Fields
import Derived.ChangeSame
import Derived.Lib.SmallJoins
import Derived.Below
import Derived.Deep.Draws
namespace Go.Proofs.Ytjmooohhndjmiaa
open Go.RowKit Go.ChangeShapes Go.WideShapes Go.Deep

section
variable {H : Type} {enc : TypeId × Value → H} {P : Program} {w : World} {base : Nat} {spare : Nat → Bool} {held : Bool}
theorem open_slice_fields {t e : TypeId} {fs : Array Field} {fuel : Nat} {cs : List Value} {x : DataW H × List MemPlace} (ht : P.underlying t = some (.slice e)) (he : P.underlying e = some (.struct fs))
    (hone : oneCellFields P fs = true) (hC : P.cellsOf e = fs.size) (h : DataW.trod enc P w base spare held fuel t cs = some x) :
    (cs = [.slice none 0 0] ∧ x = (.nil, [])) ∨
    ∃ (a : Addr) (len cap m : Nat) (D : Nat → DataW H) (Pl : Nat → List MemPlace), cs = [.slice (some a) len cap] ∧ base ≤ a.block ∧ len ≤ cap ∧ cap ≤ maxLen ∧ m = (if spare a.block then cap else len) ∧
      x = (.slice ((List.range len).map D) ((List.range (m - len)).map fun j => D (len + j)), MemPlace.row a (m * fs.size) ++ (List.range m).flatMap Pl) ∧
      ∀ i, i < m → ∃ (ys : List (DataW H × List MemPlace)) (n : Nat), D i = .agg (ys.map (·.1)) ∧ Pl i = ys.flatMap (·.2) ∧ ys.length = fs.size ∧
        ∀ (j : Nat) (f : Field), fs[j]? = some f → ∃ (v : Value) (y : DataW H × List MemPlace), w.cell? (a.add (i * fs.size + j)) = some v ∧ ys[j]? = some y ∧ DataW.trod enc P w base spare held n f.type [v] = some y := by
  rcases open_slice ht h with h0 | ⟨a, len, cap, m, n, D, Pl, hcs, hb, hl, hm, hmm, hx, hi⟩
  · exact .inl h0
  · refine .inr ⟨a, len, cap, m, D, Pl, hcs, hb, hl, hm, hmm, by rw [hC] at hx; exact hx, fun i him => ?_⟩
    obtain ⟨cs', hc, ht'⟩ := hi i him
    rw [hC] at hc
    obtain ⟨ys, n', hn', hy, hlen, hyl, hf⟩ := DataW.trod_struct he ht'
    obtain ⟨_, hcl, hat⟩ := World.cells?_some hc
    simp only [Prod.mk.injEq] at hy
    refine ⟨ys, n', hy.1, hy.2, hyl, fun j f hj => ?_⟩
    obtain ⟨ho, hk⟩ := hone_of hone j f hj
    have hjl : j < fs.size := (Array.getElem?_eq_some_iff.1 hj).1
    have hcell := hat j hjl
    have hv : cs'[j]? = some (cs'[j]'(by omega)) := List.getElem?_eq_getElem (by omega)
    have h1 := hf j f hj
    rw [ho, hk] at h1
    have hone' : (cs'.drop j).take 1 = [cs'[j]'(by omega)] := by
      rw [List.drop_eq_getElem_cons (by omega)]
      rfl
    rw [hone'] at h1
    have hys : ys[j]? = some (ys[j]'(by omega)) := List.getElem?_eq_getElem (by omega)
    refine ⟨_, _, ?_, hys, h1.trans hys⟩
    rw [← Go.Deep.add_add, hcell, hv]
end

/-- Whether a list of values is of these kinds, in range. -/
def KindsOk : List IntKind → List Int → Prop
  | [], [] => True
  | k :: ks, z :: zs => (Lit.int k z).wf = true ∧ KindsOk ks zs
  | _, _ => False
def valsOf : List IntKind → List Int → List Value
  | k :: ks, z :: zs => .int k z :: valsOf ks zs
  | _, _ => []

/-- The rows of a slice that came in: nil, or a row of 'cap' elements, of which the first 'len' are 'l', each as the cells 'valsOf ks'. -/
def RowsAt (w : World) (ks : List IntKind) (A : Option Addr) (len cap : Nat) (l : List (List Int)) : Prop :=
  l.length = len ∧ len ≤ cap ∧ cap ≤ 9223372036854775807 ∧ (∀ z ∈ l, KindsOk ks z) ∧
    (0 < len → ∃ b off, A = some ⟨b, off, none⟩ ∧ ∀ i, i < len → ∀ j v, (valsOf ks (l.getD i []))[j]? = some v → w.cell? ⟨b, off + (i * ks.length + j), none⟩ = some v)

theorem spot_none {w : World} {a : Addr} {v : Value} (h : w.cell? a = some v) : a.spot = none := by
  unfold World.cell? at h
  split at h
  · cases hs : a.spot with
    | none => rfl
    | some s => simp [hs] at h
  · cases h
theorem add_none (b o n : Nat) : (⟨b, o, none⟩ : Addr).add n = ⟨b, o + n, none⟩ := by unfold Addr.add; split <;> simp_all

/-- From 'each element has its numbers' to one list. -/
theorem rows_of {w : World} {ks : List IntKind} {a : Addr} {len cap : Nat} (hk : 0 < ks.length) (hl : len ≤ cap) (hc : cap ≤ 9223372036854775807)
    (h : ∀ i, i < len → ∃ z : List Int, KindsOk ks z ∧ ∀ j v, (valsOf ks z)[j]? = some v → w.cell? (a.add (i * ks.length + j)) = some v) :
    ∃ l, RowsAt w ks (some a) len cap l := by
  obtain ⟨f, hf⟩ := choose_lt (α := List Int) h
  refine ⟨(List.range len).map f, by simp, hl, hc, ?_, ?_⟩
  · intro z hz
    obtain ⟨i, hi, rfl⟩ := List.mem_map.1 hz
    exact (hf i (List.mem_range.1 hi)).1
  · intro h0
    obtain ⟨b, off, spot⟩ := a
    have hs : spot = none := by
      have h1 := (hf 0 h0)
      match ks, hk, f 0, h1 with
      | k :: ks, _, z :: zs, h1 =>
        have := spot_none (h1.2 0 (.int k z) rfl)
        simpa [Addr.add] using this
      | k :: ks, _, [], h1 => exact absurd h1.1 (by simp [KindsOk])
    subst hs
    refine ⟨b, off, rfl, fun i hi j v hv => ?_⟩
    have e : ((List.range len).map f).getD i [] = f i := by simp [hi]
    rw [e] at hv
    have := (hf i hi).2 j v hv
    rwa [add_none] at this

theorem rows_nil (w : World) (ks : List IntKind) : RowsAt w ks none 0 0 [] := ⟨rfl, by omega, by omega, by simp, fun h => by omega⟩

theorem bseq {a b c : World} (h : Below a.heap.size a b) (k : Below b.heap.size b c) : Below a.heap.size a c := h.trans (k.mono h.size)
theorem bnew {a b : World} (h : Below a.heap.size a b) (o : Obj) : Below a.heap.size a (b.alloc o) := h.alloc h.size o
theorem bcell {W w1 : World} (hb : Below W.heap.size W w1) : (∀ b o, b < W.heap.size → w1.cell? ⟨b, o, none⟩ = W.cell? ⟨b, o, none⟩) ∧ (∀ b o, b < W.heap.size → w1.frozen? ⟨b, o, none⟩ = W.frozen? ⟨b, o, none⟩) :=
  ⟨fun b o h => hb.cell (p := ⟨b, o, none⟩) h, fun b o h => hb.frozen (p := ⟨b, o, none⟩) h⟩
theorem kcell {W W' : World} {a : Addr} {u : Value} (hb : Below W.heap.size W W') (h : W.cell? a = some u) : W'.cell? a = some u := (hb.cell (World.block_lt_of_cell? W _ h)).trans h
theorem kalloc {W : World} {a : Addr} {u : Value} (o : Obj) (h : W.cell? a = some u) : (W.alloc o).cell? a = some u := (World.cell?_alloc_lt W o a (World.block_lt_of_cell? W _ h)).trans h
theorem RowsAt.below {w w' : World} {ks : List IntKind} {A : Option Addr} {len cap : Nat} {l : List (List Int)} (h : RowsAt w ks A len cap l) (hb : Below w.heap.size w w') : RowsAt w' ks A len cap l :=
  ⟨h.1, h.2.1, h.2.2.1, h.2.2.2.1, fun h0 => by
    obtain ⟨b, off, e, hc⟩ := h.2.2.2.2 h0
    exact ⟨b, off, e, fun i hi j v hv => kcell hb (hc i hi j v hv)⟩⟩
end Go.Proofs.Ytjmooohhndjmiaa
