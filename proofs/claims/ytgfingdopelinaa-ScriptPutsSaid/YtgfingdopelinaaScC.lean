/- contracts of broker.Conf's and topic.Topic's functions: whether one may be. -/
import Derived.Test.YtgfingdopelinaaScPop
import Derived.Test.YtgfingdopelinaaScR
import Derived.Deep.DeepCutAuto
namespace Go.Proofs.Ytgfingdopelinaa
set_option linter.unusedSimpArgs false
set_option linter.unusedVariables false
open Go.RowKit Go.Deep

/-- numbers that lie somewhere. -/
def IsAt (w : World) (A : Option Addr) (n cap : Nat) (zs : List Int) : Prop :=
  zs.length = n ∧ n ≤ cap ∧ cap ≤ 9223372036854775807 ∧ (∀ z ∈ zs, -9223372036854775808 ≤ z ∧ z < 9223372036854775808) ∧ (0 < n → ∃ b off, A = some ⟨b, off, none⟩ ∧ ∀ i, i < n → w.cell? ⟨b, off + i, none⟩ = some (.int .i64 (zs.getD i 0)))
theorem IsAt.below {w w' : World} {A : Option Addr} {n cap : Nat} {zs : List Int} (h : IsAt w A n cap zs) (hb : Below w.heap.size w w') : IsAt w' A n cap zs :=
  ⟨h.1, h.2.1, h.2.2.1, h.2.2.2.1, fun h0 => by
    obtain ⟨b, off, e, hc⟩ := h.2.2.2.2 h0
    exact ⟨b, off, e, fun i hi => kcell hb (hc i hi)⟩⟩

def inB (v a b : Int) : Bool := decide (a ≤ v ∧ v ≤ b)
theorem inB_true {v a b : Int} : inB v a b = true ↔ a ≤ v ∧ v ≤ b := by unfold inB; simp
theorem inB_false {v a b : Int} : inB v a b = false ↔ ¬ (a ≤ v ∧ v ≤ b) := by unfold inB; simp
theorem bwithin_calls (v a b : Int) (w : World) : Calls Try.prog 31 #[.int .i64 v, .int .i64 a, .int .i64 b] w fun e w' => e = .returned (.bool (inB v a b)) ∧ w = w' := by
  by_cases h1 : a ≤ v
  · by_cases h2 : v ≤ b
    · have hb : inB v a b = true := inB_true.2 ⟨h1, h2⟩
      go_enter Try.func31, Try.ntmps31
      go_wp2
      go_ret
      exact ⟨by first | rfl | (rw [hb]; rfl), rfl⟩
    · have hb : inB v a b = false := inB_false.2 (by omega)
      go_enter Try.func31, Try.ntmps31
      go_wp2
      go_ret
      exact ⟨by first | rfl | (rw [hb]; rfl), rfl⟩
  · have hb : inB v a b = false := inB_false.2 (by omega)
    go_enter Try.func31, Try.ntmps31
    go_wp2
    go_ret
    exact ⟨by first | rfl | (rw [hb]; rfl), rfl⟩

/-- whether a topic's size and words may be. -/
def trB (s n : Int) : Bool := decide (1 ≤ s ∧ s ≤ 256 ∧ 1 ≤ n ∧ n ≤ 8) && decide (pop s.toNat = 1)
theorem tright_calls (a s n : Int) (w : World) (ha : 0 ≤ a) (ha2 : a ≤ 65536) :
    Calls Try.prog 34 #[.agg #[.int .i64 a, .int .i64 s, .int .i64 n]] w fun e w' => e = .returned (.bool (trB s n)) ∧ Below w.heap.size w w' := by
  unfold trB
  by_cases h3 : 1 ≤ s
  · by_cases h4 : s ≤ 256
    · obtain ⟨k, rfl⟩ : ∃ k : Nat, s = k := ⟨s.toNat, by omega⟩
      have hwr : IntKind.u64.wrap (k : Int) = (k : Int) := wrap_small k (by omega)
      have hp := fun w => Lib.hid (power_calls k w (by omega))
      by_cases hpop : pop k = 1
      · have hd : decide (pop k = 1) = true := by simp [hpop]
        simp only [hd] at hp
        by_cases h5 : 1 ≤ n
        · by_cases h6 : n ≤ 8
          · have hF : (decide (1 ≤ (k : Int) ∧ (k : Int) ≤ 256 ∧ 1 ≤ n ∧ n ≤ 8) && decide (pop (k : Int).toNat = 1)) = true := by
              simp [h3, h4, h5, h6, hpop]
            rw [hF]
            have e1 : decide ((1 : Int) ≤ (k : Int)) = true := by simp; omega
            have e2 : decide ((k : Int) ≤ 256) = true := by simp; omega
            clear hF h3 h4 hpop hd
            go_enter Try.func34, Try.ntmps34
            go_wp2_with (first | (go_at_call 40; (try rw [hwr]); refine (hp _).out.mono ?_; rintro e w' ⟨rfl, rfl⟩))
            go_ret
            exact ⟨rfl, bnew (Below.refl _ _) _⟩
          · have hF : (decide (1 ≤ (k : Int) ∧ (k : Int) ≤ 256 ∧ 1 ≤ n ∧ n ≤ 8) && decide (pop (k : Int).toNat = 1)) = false := by
              simp [h6]
            rw [hF]
            have e3 : decide (n ≤ 8) = false := by simp; omega
            have e1 : decide ((1 : Int) ≤ (k : Int)) = true := by simp; omega
            have e2 : decide ((k : Int) ≤ 256) = true := by simp; omega
            clear hF h3 h4 hpop hd
            go_enter Try.func34, Try.ntmps34
            go_wp2_with (first | (go_at_call 40; (try rw [hwr]); refine (hp _).out.mono ?_; rintro e w' ⟨rfl, rfl⟩))
            go_ret
            exact ⟨rfl, bnew (Below.refl _ _) _⟩
        · have hF : (decide (1 ≤ (k : Int) ∧ (k : Int) ≤ 256 ∧ 1 ≤ n ∧ n ≤ 8) && decide (pop (k : Int).toNat = 1)) = false := by
            simp [h5]
          rw [hF]
          have e1 : decide ((1 : Int) ≤ (k : Int)) = true := by simp; omega
          have e2 : decide ((k : Int) ≤ 256) = true := by simp; omega
          clear hF h3 h4 hpop hd
          go_enter Try.func34, Try.ntmps34
          go_wp2_with (first | (go_at_call 40; (try rw [hwr]); refine (hp _).out.mono ?_; rintro e w' ⟨rfl, rfl⟩))
          go_ret
          exact ⟨rfl, bnew (Below.refl _ _) _⟩
      · have hd : decide (pop k = 1) = false := by simp [hpop]
        simp only [hd] at hp
        have hF : (decide (1 ≤ (k : Int) ∧ (k : Int) ≤ 256 ∧ 1 ≤ n ∧ n ≤ 8) && decide (pop (k : Int).toNat = 1)) = false := by
          simp [hpop]
        rw [hF]
        have e1 : decide ((1 : Int) ≤ (k : Int)) = true := by simp; omega
        have e2 : decide ((k : Int) ≤ 256) = true := by simp; omega
        clear hF h3 h4 hpop hd
        go_enter Try.func34, Try.ntmps34
        go_wp2_with (first | (go_at_call 40; (try rw [hwr]); refine (hp _).out.mono ?_; rintro e w' ⟨rfl, rfl⟩))
        go_ret
        exact ⟨rfl, bnew (Below.refl _ _) _⟩
    · have hF : (decide (1 ≤ s ∧ s ≤ 256 ∧ 1 ≤ n ∧ n ≤ 8) && decide (pop s.toNat = 1)) = false := by simp [h4]
      rw [hF]
      go_enter Try.func34, Try.ntmps34
      go_wp2
      go_ret
      exact ⟨rfl, bnew (Below.refl _ _) _⟩
  · have hF : (decide (1 ≤ s ∧ s ≤ 256 ∧ 1 ≤ n ∧ n ≤ 8) && decide (pop s.toNat = 1)) = false := by simp [h3]
    rw [hF]
    go_enter Try.func34, Try.ntmps34
    go_wp2
    go_ret
    exact ⟨rfl, bnew (Below.refl _ _) _⟩
theorem trB_size {s n : Int} (h : trB s n = true) : 1 ≤ s ∧ s ≤ 256 ∧ 1 ≤ n ∧ n ≤ 8 := by
  unfold trB at h
  simp at h
  omega
theorem tlen_calls (a s n : Int) (w : World) (ha : 0 ≤ a) (ha2 : a ≤ 65536) (h : trB s n = true) :
    Calls Try.prog 41 #[.agg #[.int .i64 a, .int .i64 s, .int .i64 n]] w fun e w' => e = .returned (.int .i64 (33 + 9 * s)) ∧ Below w.heap.size w w' := by
  have hs := trB_size h
  have HR := fun w => Lib.hid (tright_calls a s n w ha ha2)
  simp only [h] at HR
  clear h
  go_enter Try.func41, Try.ntmps41
  go_wp2_with fail
  refine (HR _).out.mono ?_; rintro e w' ⟨rfl, hb⟩
  obtain ⟨hc, hf⟩ := bcell hb
  have HB := Lib.hid hb
  clear hb
  go_wp2
  go_ret
  exact ⟨congrArg (fun z => Ending.returned (Value.int .i64 z)) (by omega), bseq (bnew (Below.refl _ _) _) HB.out⟩

theorem bounded1_calls (bc : Nat) (s n : Int) (w : World) (hc : w.cell? ⟨bc, 2, none⟩ = some (.int .i64 n)) :
    Calls Try.prog 33 #[.int .i64 s, .pointer (some ⟨bc, 0, none⟩)] w fun e w' => e = .returned (.bool (!trB s n)) ∧ Below w.heap.size w w' := by
  have HR := fun w => Lib.hid (tright_calls 0 s n w (by decide) (by decide))
  go_enter Try.func33, Try.ntmps33
  go_wp2_with fail
  refine (HR _).out.mono ?_; rintro e w' ⟨rfl, hb⟩
  have HB := Lib.hid hb
  clear hb
  go_wp2
  go_ret
  exact ⟨rfl, HB.out⟩
/-- whether each size may be. -/
def sizesB (n : Int) (zs : List Int) : Bool := zs.all (fun z => trB z n)
set_option maxHeartbeats 1000000 in
theorem indexf_calls (bc : Nat) (n : Int) (A : Option Addr) (len cap : Nat) (zs : List Int) (w : World) (h : IsAt w A len cap zs) (hc : w.cell? ⟨bc, 2, none⟩ = some (.int .i64 n)) :
    Calls Try.prog 39 #[.slice A len cap, .func (.func 33) #[] #[.pointer (some ⟨bc, 0, none⟩)]] w fun e w' => (∃ r : Int, e = .returned (.int .i64 r) ∧ decide (0 ≤ r) = !sizesB n zs) ∧ Below w.heap.size w w' := by
  have hlen : len ≤ 9223372036854775807 := by have := h.2.1; have := h.2.2.1; omega
  have H := Lib.hid h
  have HC := Lib.hid hc
  clear h hc
  go_enter Try.func39, Try.ntmps39
  go_wp2_with fail
  go_loopg [8] len (fun g i wr => ∃ k : Nat, k ≤ len ∧ g = len - k ∧ i = .int .i64 k ∧ Hid ((∀ j, j < k → trB (zs.getD j 0) n = true) ∧ Below w.heap.size w wr))
  case atStart => exact ⟨0, by omega, rfl, rfl, Lib.hid ⟨fun j h => by omega, Below.refl _ _⟩⟩
  case round =>
    obtain ⟨k, hk, rfl, rfl, HB⟩ := hrel
    by_cases hlt : k < len
    · obtain ⟨b, off, rfl, hcell⟩ := H.out.2.2.2.2 (by omega)
      have c0 := kcell HB.out.2 (hcell k hlt)
      have HR := Lib.hid (bounded1_calls bc (zs.getD k 0) n wr (kcell HB.out.2 HC.out))
      obtain ⟨z, hz⟩ : ∃ z, zs.getD k 0 = z := ⟨_, rfl⟩
      rw [hz] at c0 HR
      have HZ := Lib.hid hz
      clear hcell hz
      by_cases ht : trB z n = true
      · have t1 : (!trB z n) = false := by rw [ht]; rfl
        have HT := Lib.hid ht
        rw [t1] at HR
        clear t1 ht
        go_wp2_with fail
        refine HR.out.mono ?_; rintro e w' ⟨rfl, hb⟩
        have HB2 : Hid ((∀ j, j < k + 1 → trB (zs.getD j 0) n = true) ∧ Below w.heap.size w w') := Lib.hid ⟨fun j hj => by
          by_cases e : j = k
          · subst e; rw [HZ.out]; exact HT.out
          · exact HB.out.1 j (by omega), bseq HB.out.2 hb⟩
        clear hb
        go_wp2
        go_roundg (len - (k + 1))
        case measure => omega
        case rel => exact ⟨k + 1, by omega, rfl, by go_num, HB2⟩
      · have t1 : (!trB z n) = true := by simp at ht; rw [ht]; rfl
        have HT := Lib.hid ht
        rw [t1] at HR
        clear t1 ht
        go_wp2_with fail
        refine HR.out.mono ?_; rintro e w' ⟨rfl, hb⟩
        have HB2 : Hid (Below w.heap.size w w') := Lib.hid (bseq HB.out.2 hb)
        clear hb
        go_wp2
        go_ret
        refine ⟨⟨k, rfl, ?_⟩, HB2.out⟩
        have h1 : sizesB n zs = false := by
          unfold sizesB
          rw [List.all_eq_false]
          refine ⟨z, ?_, by simpa using HT.out⟩
          rw [← HZ.out, List.getD, List.getElem?_eq_getElem (by rw [H.out.1]; exact hlt)]
          exact List.getElem_mem _
        rw [h1]
        simp
    · obtain rfl : k = len := by omega
      clear hlt
      go_wp2
      go_ret
      refine ⟨⟨-1, rfl, ?_⟩, HB.out.2⟩
      have h1 : sizesB n zs = true := by
        unfold sizesB
        rw [List.all_eq_true]
        intro z hz
        obtain ⟨j, hj, rfl⟩ := List.getElem_of_mem hz
        have := HB.out.1 j (by rw [H.out.1] at hj; exact hj)
        rw [List.getD, List.getElem?_eq_getElem hj] at this
        exact this
      rw [h1]
      decide
theorem containsf_calls (bc : Nat) (n : Int) (A : Option Addr) (len cap : Nat) (zs : List Int) (w : World) (h : IsAt w A len cap zs) (hc : w.cell? ⟨bc, 2, none⟩ = some (.int .i64 n)) :
    Calls Try.prog 32 #[.slice A len cap, .func (.func 33) #[] #[.pointer (some ⟨bc, 0, none⟩)]] w fun e w' => e = .returned (.bool (!sizesB n zs)) ∧ Below w.heap.size w w' := by
  have HI := Lib.hid (indexf_calls bc n A len cap zs w h hc)
  clear h hc
  go_enter Try.func32, Try.ntmps32
  go_wp2_with fail
  refine HI.out.mono ?_; rintro e w' ⟨⟨r, rfl, hr⟩, hb⟩
  have HB := Lib.hid hb
  clear hb
  go_wp2
  go_ret
  exact ⟨rfl, HB.out⟩

def boundedB (t n words blocks : Int) (zs : List Int) : Bool := inB t 1 64 && inB n 1 4 && inB words 2 8 && inB blocks 1 1024 && sizesB words zs
def confV (t : Int) (A : Option Addr) (n cap : Nat) (words blocks sweep : Int) : Value := .agg #[.int .i64 t, .slice A n cap, .int .i64 words, .int .i64 blocks, .int .i64 sweep]
set_option maxHeartbeats 2000000 in
theorem bounded_calls (t : Int) (A : Option Addr) (n cap : Nat) (words blocks sweep : Int) (zs : List Int) (w : World) (h : IsAt w A n cap zs) :
    Calls Try.prog 22 #[confV t A n cap words blocks sweep] w fun e w' => e = .returned (.bool (boundedB t n words blocks zs)) ∧ Below w.heap.size w w' := by
  have hmf : ∀ (fn : Fn) (first cap : Array Value) (w : World), (Instr.makeFunc fn first cap).run Try.prog w = .ok (.func fn first cap) w := fun _ _ _ _ => rfl
  have HW : Hid (∀ W, Below w.heap.size w W → ∀ bc, W.cell? ⟨bc, 2, none⟩ = some (.int .i64 words) → Calls Try.prog 32 #[.slice A n cap, .func (.func 33) #[] #[.pointer (some ⟨bc, 0, none⟩)]] W fun e w' => e = .returned (.bool (!sizesB words zs)) ∧ Below W.heap.size W w') := Lib.hid (fun W hb bc hc => containsf_calls bc words A n cap zs W (h.below hb) hc)
  clear h
  unfold confV boundedB
  cases h1 : inB t 1 64
  case false =>
    go_enter Try.func22, Try.ntmps22
    go_wp2_with (first | (go_at_call 31; refine (bwithin_calls _ _ _ _).mono ?_; rintro e w' ⟨rfl, rfl⟩))
    go_ret
    exact ⟨by simp [h1], bnew (Below.refl _ _) _⟩
  case true =>
    cases h2 : inB (n : Int) 1 4
    case false =>
      go_enter Try.func22, Try.ntmps22
      go_wp2_with (first | (go_at_call 31; refine (bwithin_calls _ _ _ _).mono ?_; rintro e w' ⟨rfl, rfl⟩))
      go_ret
      exact ⟨by simp [h2], bnew (Below.refl _ _) _⟩
    case true =>
      cases h3 : inB words 2 8
      case false =>
        go_enter Try.func22, Try.ntmps22
        go_wp2_with (first | (go_at_call 31; refine (bwithin_calls _ _ _ _).mono ?_; rintro e w' ⟨rfl, rfl⟩))
        go_ret
        exact ⟨by simp [h3], bnew (Below.refl _ _) _⟩
      case true =>
        cases h4 : inB blocks 1 1024
        case false =>
          go_enter Try.func22, Try.ntmps22
          go_wp2_with (first | (go_at_call 31; refine (bwithin_calls _ _ _ _).mono ?_; rintro e w' ⟨rfl, rfl⟩))
          go_ret
          exact ⟨by simp [h4], bnew (Below.refl _ _) _⟩
        case true =>
          go_enter Try.func22, Try.ntmps22
          go_wp2_with (first | (go_at_call 31; refine (bwithin_calls _ _ _ _).mono ?_; rintro e w' ⟨rfl, rfl⟩))
          refine (HW.out _ (bnew (Below.refl _ _) _) _ ((Blk.new w _ [_, _, _, _, _]).cell 2)).mono ?_; rintro e w' ⟨rfl, hb⟩
          have HB := Lib.hid hb
          clear hb
          go_wp2
          go_ret
          exact ⟨by simp [h1, h2, h3, h4], bseq (bnew (Below.refl _ _) _) HB.out⟩
end Go.Proofs.Ytgfingdopelinaa
