/- bytes that came in; contract of Number. -/
import Derived.Test.YtgfingdopelinaaScP
import Derived.Lib.BitFns
namespace Go.Proofs.Ytgfingdopelinaa
open Go.RowKit Go.Deep

/-- Bytes that lie somewhere: bs, at the slice (A, n, cap). -/
def BsAt (w : World) (A : Option Addr) (n cap : Nat) (bs : List Nat) : Prop :=
  bs.length = n ∧ n ≤ cap ∧ cap ≤ 9223372036854775807 ∧ (∀ x ∈ bs, x < 256) ∧ (0 < n → ∃ b off, A = some ⟨b, off, none⟩ ∧ ∀ i, i < n → w.cell? ⟨b, off + i, none⟩ = some (.int .u8 (bs.getD i 0 : Nat))) ∧ (A = none → cap = 0)
theorem BsAt.drop {w : World} {A : Option Addr} {n cap : Nat} {bs : List Nat} (h : BsAt w A n cap bs) {k : Nat} (hk : k ≤ n) : BsAt w (if cap = k then A else A.map (·.add (k * 1))) (n - k) (cap - k) (bs.drop k) := by
  obtain ⟨h1, h2, h3, h4, h5, h6⟩ := h
  refine ⟨by simp [h1], by omega, by omega, fun x hx => h4 x (List.mem_of_mem_drop hx), fun h0 => ?_, fun e => by split at e <;> cases A <;> simp_all⟩
  obtain ⟨b, off, rfl, hc⟩ := h5 (by omega)
  rw [if_neg (by omega)]
  refine ⟨b, off + k, by simp [add_none], fun i hi => ?_⟩
  have := hc (k + i) (by omega)
  rw [Nat.add_assoc, this]
  simp [List.getD]
theorem BsAt.take {w : World} {A : Option Addr} {n cap : Nat} {bs : List Nat} (h : BsAt w A n cap bs) {k : Nat} (hk : k ≤ n) : BsAt w A k cap (bs.take k) := by
  obtain ⟨h1, h2, h3, h4, h5, h6⟩ := h
  refine ⟨by simp [h1]; omega, by omega, by omega, fun x hx => h4 x (List.mem_of_mem_take hx), fun h0 => ?_, h6⟩
  obtain ⟨b, off, rfl, hc⟩ := h5 (by omega)
  refine ⟨b, off, rfl, fun i hi => ?_⟩
  rw [hc i (by omega)]
  simp [List.getD, hi]
theorem BsAt.kept {w w' : World} {A : Option Addr} {n cap : Nat} {bs : List Nat} (h : BsAt w A n cap bs) (hk : ∀ a u, w.cell? a = some u → (∃ x, u = .int .u8 x) → w'.cell? a = some u) : BsAt w' A n cap bs :=
  ⟨h.1, h.2.1, h.2.2.1, h.2.2.2.1, fun h0 => by
    obtain ⟨b, off, e, hc⟩ := h.2.2.2.2.1 h0
    exact ⟨b, off, e, fun i hi => hk _ _ (hc i hi) ⟨_, rfl⟩⟩, h.2.2.2.2.2⟩

set_option maxRecDepth 100000 in
theorem andNot_u8 (x : Nat) (hx : x < 256) : bits .andNot .u8 (x : Int) 128 = ((x % 128 : Nat) : Int) := by
  have key : ∀ m : Fin 256, bits .andNot .u8 (m.1 : Int) 128 = ((m.1 % 128 : Nat) : Int) := by decide +kernel
  exact key ⟨x, hx⟩
theorem or_low (a q p z : Nat) (i : Nat) (hp : p = 2 ^ i) (ha : a < p) (hq : q = z * p) (hlt : q < 18446744073709551616) (hal : a < 18446744073709551616) : bits .or .u64 (a : Int) (q : Int) = ((a + q : Nat) : Int) := by
  have e : a ||| q = a + q := by
    subst hq hp
    rw [Nat.mul_comm, Nat.or_comm, Nat.add_comm]
    exact (Nat.two_pow_add_eq_or_of_lt ha z).symm
  have h1 : BitVec.ofInt 64 (a : Int) = BitVec.ofNat 64 a := by simp
  have h2 : BitVec.ofInt 64 (q : Int) = BitVec.ofNat 64 q := by simp
  show IntKind.u64.wrap ((BitVec.ofInt 64 (a : Int) ||| BitVec.ofInt 64 (q : Int)).toNat : Nat) = _
  have h3 : a + q < 18446744073709551616 := by
    rw [← e]; exact Nat.or_lt_two_pow (n := 64) hal hlt
  rw [h1, h2, BitVec.toNat_or, BitVec.toNat_ofNat, BitVec.toNat_ofNat, Nat.mod_eq_of_lt hal, Nat.mod_eq_of_lt hlt, e, IntKind.wrap_u64]
  omega
theorem orw {p q z x k a : Nat} (h : 2 ^ (7 * k) = p ∧ p ≤ 9223372036854775808 ∧ z * p = q ∧ x % 128 = z) (ha : a < p) (hz : k = 9 ∧ z ≤ 1 ∨ k < 9 ∧ z < 128) :
    bits .or .u64 (a : Int) (IntKind.u64.wrap (q : Int)) = ((a + q : Nat) : Int) := by
  obtain ⟨rfl, hp, rfl, _⟩ := h
  have hq : z * 2 ^ (7 * k) ≤ 9223372036854775808 := by
    rcases hz with ⟨rfl, hz⟩ | ⟨hk, hz⟩
    · have e : (2 : Nat) ^ (7 * 9) = 9223372036854775808 := by decide
      rw [e]; omega
    · have h1 : (2 : Nat) ^ (7 * k) ≤ 2 ^ (7 * 8) := Nat.pow_le_pow_right (by decide) (by omega)
      have e : (2 : Nat) ^ (7 * 8) = 72057594037927936 := by decide
      rw [e] at h1
      have := Nat.mul_le_mul (show z ≤ 128 by omega) h1
      omega
  have hw : IntKind.u64.wrap ((z * 2 ^ (7 * k) : Nat) : Int) = ((z * 2 ^ (7 * k) : Nat) : Int) := by
    rw [IntKind.wrap_u64]; omega
  rw [hw]
  exact or_low a _ _ z (7 * k) rfl ha rfl (by omega) (by omega)
theorem drop_at {bs : List Nat} {n k x : Nat} (hn : bs.length = n) (hk : k < n) (hx : bs.getD k 0 = x) : bs.drop k = x :: bs.drop (k + 1) := by
  subst hn
  rw [List.drop_eq_getElem_cons hk, ← hx]
  simp [List.getD, hk]
theorem rd_err {bs : List Nat} {n k x a : Nat} (hn : bs.length = n) (hk : k < n) (hx : bs.getD k 0 = x) (h : k = 9 ∧ 1 < x ∨ x = 0 ∧ 0 < k) : rdN k a (bs.drop k) = (0, 0, 11) := by
  rw [drop_at hn hk hx, rdN, if_pos (by omega)]
theorem rd_ret {bs : List Nat} {n k x a : Nat} (hn : bs.length = n) (hk : k < n) (hx : bs.getD k 0 = x) (h : ¬ (k = 9 ∧ 1 < x ∨ x = 0 ∧ 0 < k)) (h2 : x < 128) : rdN k a (bs.drop k) = (a + x * 2 ^ (7 * k), k + 1, 0) := by
  rw [drop_at hn hk hx, rdN, if_neg (by omega), if_pos h2]
theorem rd_go {bs : List Nat} {n k x a p q z : Nat} (hn : bs.length = n) (hk : k < n) (hx : bs.getD k 0 = x) (h0 : rdN 0 0 bs = rdN k a (bs.drop k)) (h2 : ¬ x < 128 ∧ k < 9) (h : 2 ^ (7 * k) = p ∧ p ≤ 9223372036854775808 ∧ z * p = q ∧ x % 128 = z) (ha : a < p) (hz : z < 128) :
    rdN 0 0 bs = rdN (k + 1) (a + q) (bs.drop (k + 1)) ∧ a + q < 2 ^ (7 * (k + 1)) ∧ k + 1 ≤ 9 := by
  obtain ⟨rfl, hp, rfl, rfl⟩ := h
  refine ⟨?_, ?_, by omega⟩
  · rw [h0, drop_at hn hk hx, rdN, if_neg (by omega), if_neg (by omega)]
  · rw [p7]
    have := Nat.mul_le_mul_right (2 ^ (7 * k)) (show x % 128 + 1 ≤ 128 by omega)
    rw [Nat.add_mul, Nat.one_mul] at this
    omega
set_option maxRecDepth 100000 in
set_option maxHeartbeats 4000000 in
theorem number_calls (A : Option Addr) (n cap : Nat) (bs : List Nat) (w : World) (h : BsAt w A n cap bs) :
    Calls Try.prog 19 #[.slice A n cap] w fun e w' => e = .returned (.tuple #[.int .u64 ((rdN 0 0 bs).1 : Nat), .int .i64 ((rdN 0 0 bs).2.1 : Nat), .int .i64 ((rdN 0 0 bs).2.2 : Nat)]) ∧ w = w' := by
  have hn : n ≤ 9223372036854775807 := by have := h.2.1; have := h.2.2.1; omega
  have H := Lib.hid h
  clear h
  go_enter Try.func19, Try.ntmps19
  go_wp2_with fail
  go_loopg [5, 11] n (fun g acc i wr => ∃ (k a : Nat), k ≤ n ∧ g = n - k ∧ i = .int .i64 k ∧ acc = .int .u64 a ∧ Hid (rdN 0 0 bs = rdN k a (bs.drop k) ∧ a < 2 ^ (7 * k) ∧ k ≤ 9) ∧ wr = w)
  case atStart => exact ⟨0, 0, by omega, rfl, rfl, rfl, Lib.hid ⟨rfl, by decide, by decide⟩, rfl⟩
  case round =>
    obtain ⟨k, a, hk, rfl, rfl, rfl, HI, rfl⟩ := hrel
    by_cases hlt : k < n
    · obtain ⟨b, off, rfl, hc⟩ := H.out.2.2.2.2.1 (by omega)
      obtain ⟨x, hx⟩ : ∃ x, bs.getD k 0 = x := ⟨_, rfl⟩
      have c0 := hc k hlt
      rw [hx] at c0
      have HX := Lib.hid hx
      clear hc hx
      have hx8 : x < 256 := by
        rw [← HX.out, List.getD, List.getElem?_eq_getElem (by rw [H.out.1]; exact hlt)]
        exact H.out.2.2.2.1 _ (List.getElem_mem _)
      have hk9 : k ≤ 9 := HI.out.2.2
      obtain ⟨z, hz⟩ : ∃ z, x % 128 = z := ⟨_, rfl⟩
      have hand : bits .andNot .u8 (x : Int) 128 = (z : Int) := by rw [andNot_u8 x hx8, hz]
      have hz128 : z < 128 := by omega
      obtain ⟨p, hp⟩ : ∃ p, 2 ^ (7 * k) = p := ⟨_, rfl⟩
      have hpl : p ≤ 9223372036854775808 := by
        have h1 : (2 : Nat) ^ (7 * k) ≤ 2 ^ (7 * 9) := Nat.pow_le_pow_right (by decide) (by omega)
        have e : (2 : Nat) ^ (7 * 9) = 9223372036854775808 := by decide
        omega
      obtain ⟨q, hq⟩ : ∃ q, z * p = q := ⟨_, rfl⟩
      have HP := Lib.hid (And.intro hp (And.intro hpl (And.intro hq hz)))
      have hw : (z : Int) * 2 ^ (7 * (k : Int)).toNat = (q : Int) := by
        rw [show (7 * (k : Int)).toNat = 7 * k by omega, ← hq, ← hp]
        simp
      have ha := HI.out.2.1
      rw [hp] at ha
      have HA := Lib.hid ha
      have HX8 := Lib.hid hx8
      clear hz hp hpl hq ha hx8
      by_cases c1 : k = 9
      · by_cases c2 : 1 < x
        · have t1 : ((k : Int) == 9) = true := by rw [beq_iff_eq]; omega
          have t3 : decide ((1 : Int) < (x : Int)) = true := by simp; omega
          have HC := Lib.hid (And.intro c1 c2)
          clear c1 c2
          go_wp2
          go_ret3
          exact ⟨by rw [HI.out.1, rd_err H.out.1 hlt HX.out (by have := HC.out; omega)]; rfl, rfl⟩
        · by_cases c3 : x = 0
          · have t1 : ((k : Int) == 9) = true := by rw [beq_iff_eq]; omega
            have t3 : decide ((1 : Int) < (x : Int)) = false := by simp; omega
            have t2 : decide ((x : Int) < 128) = true := by simp; omega
            have t4 : ((x : Int) == 0) = true := by rw [beq_iff_eq]; omega
            have t5 : decide (0 < k) = true := by simp; omega
            have HC := Lib.hid (And.intro c1 (And.intro c2 c3))
            clear c1 c2 c3
            go_wp2
            go_ret3
            exact ⟨by rw [HI.out.1, rd_err H.out.1 hlt HX.out (by have := HC.out; omega)]; rfl, rfl⟩
          · have t1 : ((k : Int) == 9) = true := by rw [beq_iff_eq]; omega
            have t3 : decide ((1 : Int) < (x : Int)) = false := by simp; omega
            have t2 : decide ((x : Int) < 128) = true := by simp; omega
            have t4 : ((x : Int) == 0) = false := by rw [beq_eq_false_iff_ne]; omega
            have HC := Lib.hid (And.intro c1 (And.intro c2 c3))
            clear c1 c2 c3
            have hor : bits .or .u64 (a : Int) (IntKind.u64.wrap (q : Int)) = ((a + q : Nat) : Int) := orw HP.out HA.out (by have := HC.out; have := HP.out.2.2.2; omega)
            go_wp2
            go_ret3
            exact ⟨by rw [HI.out.1, rd_ret H.out.1 hlt HX.out (by have := HC.out; omega) (by have := HC.out; omega), HP.out.1, ← HP.out.2.2.1, ← HP.out.2.2.2, Nat.mod_eq_of_lt (by have := HC.out; omega : x < 128)]; rfl, rfl⟩
      · by_cases c2 : x < 128
        · by_cases c3 : x = 0
          · by_cases c4 : 0 < k
            · have t1 : ((k : Int) == 9) = false := by rw [beq_eq_false_iff_ne]; omega
              have t2 : decide ((x : Int) < 128) = true := by simp; omega
              have t4 : ((x : Int) == 0) = true := by rw [beq_iff_eq]; omega
              have t5 : decide (0 < k) = true := by simp; omega
              have HC := Lib.hid (And.intro c1 (And.intro c2 (And.intro c3 c4)))
              clear c1 c2 c3 c4
              go_wp2
              go_ret3
              exact ⟨by rw [HI.out.1, rd_err H.out.1 hlt HX.out (by have := HC.out; omega)]; rfl, rfl⟩
            · have t1 : ((k : Int) == 9) = false := by rw [beq_eq_false_iff_ne]; omega
              have t2 : decide ((x : Int) < 128) = true := by simp; omega
              have t4 : ((x : Int) == 0) = true := by rw [beq_iff_eq]; omega
              have t5 : decide (0 < k) = false := by simp; omega
              have HC := Lib.hid (And.intro c1 (And.intro c2 (And.intro c3 c4)))
              clear c1 c2 c3 c4
              have hor : bits .or .u64 (a : Int) (IntKind.u64.wrap (q : Int)) = ((a + q : Nat) : Int) := orw HP.out HA.out (by have := HC.out; have := HP.out.2.2.2; omega)
              go_wp2
              go_ret3
              exact ⟨by rw [HI.out.1, rd_ret H.out.1 hlt HX.out (by have := HC.out; omega) (by have := HC.out; omega), HP.out.1, ← HP.out.2.2.1, ← HP.out.2.2.2, Nat.mod_eq_of_lt (by have := HC.out; omega : x < 128)]; rfl, rfl⟩
          · have t1 : ((k : Int) == 9) = false := by rw [beq_eq_false_iff_ne]; omega
            have t2 : decide ((x : Int) < 128) = true := by simp; omega
            have t4 : ((x : Int) == 0) = false := by rw [beq_eq_false_iff_ne]; omega
            have HC := Lib.hid (And.intro c1 (And.intro c2 c3))
            clear c1 c2 c3
            have hor : bits .or .u64 (a : Int) (IntKind.u64.wrap (q : Int)) = ((a + q : Nat) : Int) := orw HP.out HA.out (by have := HC.out; have := HP.out.2.2.2; omega)
            go_wp2
            go_ret3
            exact ⟨by rw [HI.out.1, rd_ret H.out.1 hlt HX.out (by have := HC.out; omega) (by have := HC.out; omega), HP.out.1, ← HP.out.2.2.1, ← HP.out.2.2.2, Nat.mod_eq_of_lt (by have := HC.out; omega : x < 128)]; rfl, rfl⟩
        · have t1 : ((k : Int) == 9) = false := by rw [beq_eq_false_iff_ne]; omega
          have t2 : decide ((x : Int) < 128) = false := by simp; omega
          have HC := Lib.hid (And.intro c1 c2)
          clear c1 c2
          have hor : bits .or .u64 (a : Int) (IntKind.u64.wrap (q : Int)) = ((a + q : Nat) : Int) := orw HP.out HA.out (by have := HC.out; have := HP.out.2.2.2; omega)
          go_wp2
          go_roundg (n - (k + 1))
          case measure => omega
          case rel => exact ⟨k + 1, a + q, by omega, rfl, by go_num, by go_num, Lib.hid (rd_go H.out.1 hlt HX.out HI.out.1 (by have := HC.out; omega) HP.out HA.out (by have := HC.out; omega)), rfl⟩
    · obtain rfl : k = n := by omega
      clear hlt
      go_wp2
      go_ret3
      exact ⟨by rw [HI.out.1, List.drop_of_length_le (by rw [H.out.1]; exact Nat.le_refl _)]; rfl, rfl⟩

theorem BsAt.below {w w' : World} {A : Option Addr} {n cap : Nat} {bs : List Nat} (h : BsAt w A n cap bs) (hb : Below w.heap.size w w') : BsAt w' A n cap bs := h.kept fun _ _ hc _ => kcell hb hc
theorem bs_nil (w : World) : BsAt w none 0 0 [] := ⟨rfl, by omega, by omega, by simp, fun h => by omega, fun _ => rfl⟩

/-- 'append(v, bytes...)' onto a row of the call's own. -/
theorem cat_run (w : World) (base : Nat) (v : Value) (xs cs : List Nat) (A : Option Addr) (n cap : Nat) (hown : w.ownsRow base 5 1 v xs.length (u8s xs)) (hs : BsAt w A n cap cs) (hbase : base ≤ w.heap.size) (hlen : xs.length + n ≤ 4398046511104) :
    ∃ v' w', (Builtin.append_ #[41, 41] 41 #[v, .slice A n cap]).run Try.prog w = .ok v' w' ∧ w'.ownsRow base 5 1 v' (xs.length + cs.length) (u8s xs ++ u8s cs) ∧ w.grownBy w' v.ownBlock ∧ (v'.ownBlock = v.ownBlock ∨ v'.ownBlock = some w.heap.size) := by
  obtain ⟨i0, hi, hz⟩ := Option.map_eq_some_iff.1 info_u8
  simp only [Prod.mk.injEq] at hz
  obtain ⟨hz0, hz1, hz2⟩ := hz
  obtain ⟨h1, h2, h3, h4, h5, h6⟩ := hs
  cases A with
  | none =>
    obtain rfl : cap = 0 := h6 rfl
    obtain rfl : n = 0 := by omega
    obtain rfl : cs = [] := List.eq_nil_of_length_eq_zero h1
    exact ⟨v, w, run_append_owned_none _ base _ _ _ i0 1 Try.underlying41 hi v _ _ hown, by simpa [u8s] using hown, ⟨rfl, rfl, rfl, Nat.le_refl _, fun _ _ _ => rfl⟩, .inl rfl⟩
  | some ad =>
    have hc : ∀ j u, (u8s cs)[j]? = some u → w.cell? (ad.add j) = some u := by
      intro j u hu
      unfold u8s at hu
      rw [List.getElem?_map] at hu
      obtain ⟨x, hx, rfl⟩ := Option.map_eq_some_iff.1 hu
      have hj : j < cs.length := (List.getElem?_eq_some_iff.1 hx).1
      obtain ⟨b, off, e, hcell⟩ := h5 (by omega)
      injection e with e
      subst e
      rw [add_none, hcell j (by omega)]
      simp [List.getD, hx]
    obtain ⟨v', w', hr, a1, a2, _, a3⟩ := run_append_own_at (P := Try.prog) w base 41 41 5 i0 (.int .u8 0) 1 1 Try.underlying41 hi hz0 hz1 hz2 rfl (by decide) v _ _ hown ad n cap (u8s cs) (by rw [u8s_len]; omega) hc (u8s_one _) (by simp [maxLen]; omega) (by omega) hbase
    rw [← h1] at a1
    exact ⟨v', w', by simpa using hr, a1, a2, a3⟩
theorem oper_append {P : Program} {o : Oper} {a : Act} {w w' : World} {next : Act → World → Prop} {Q : Exit → Act → World → Prop} (s x : Operand) (t : TypeId) (ho : o.op = .call { callee := .builtin .append, args := #[s, x], argTypes := #[t, t] }) {v1 v2 v' : Value}
    (h1 : a.eval s = v1) (h2 : a.eval x = v2) (hr : (Builtin.append_ #[t, t] o.type #[v1, v2]).run P w = .ok v' w') (h : next (a.put o.dst v') w') : o.wp P a w next Q := by
  unfold Oper.wp execOp
  simp only [ho, resolve, invoke, builtin, Sem.run_bind, Sem.run_pure, Result.andThen_ok, List.map_toArray, List.map_cons, List.map_nil, h1, h2, hr]
  exact h
/-- .. as a law of the walk. -/
theorem wpList_cat {ops : Array Oper} {rest : List Oper} {o : Oper} {a : Act} {w : World} {Q : Exit → Act → World → Prop} (hgd : o.guard = none) (s x : Operand) (hty : o.type = 41) (ho : o.op = .call { callee := .builtin .append, args := #[s, x], argTypes := #[41, 41] })
    (base : Nat) (v : Value) (xs cs : List Nat) (A : Option Addr) (n cap : Nat) (h1 : a.eval s = v) (h2 : a.eval x = .slice A n cap) (hown : w.ownsRow base 5 1 v xs.length (u8s xs)) (hs : BsAt w A n cap cs) (hbase : base ≤ w.heap.size) (hlen : xs.length + n ≤ 4398046511104)
    (h : ∀ v' w', w'.ownsRow base 5 1 v' (xs.length + cs.length) (u8s xs ++ u8s cs) → w.grownBy w' v.ownBlock → (v'.ownBlock = v.ownBlock ∨ v'.ownBlock = some w.heap.size) → wpList Try.prog ops Q rest (a.put o.dst v') w') : wpList Try.prog ops Q (o :: rest) a w := by
  refine wpList_plain hgd fun K hK => ?_
  obtain ⟨v', w', hr, a1, a2, a3⟩ := cat_run w base v xs cs A n cap hown hs hbase hlen
  exact oper_append s x _ ho h1 h2 (by rw [hty]; exact hr) (hK _ _ (h v' w' a1 a2 a3))
theorem own_chg {w w' : World} {row : Option Nat} (hg : w.grownBy w' row) : Chg (fun j => row = some j) w w' := ⟨hg.os, hg.tape, hg.output, hg.size, fun k hk hn => hg.block k hk (fun e => hn e.symm)⟩

theorem BRow.below {W w0 w : World} {base B : Nat} {v0 v : Value} {bs xs : List Nat} {n0 : Nat} {e0 : TypeId} (h : BRow w0 w base v0 v bs) (hown : w0.ownsRow base e0 1 v0 n0 (u8s xs)) (hb : Below B W w0) (hB : B ≤ base) (hB2 : B ≤ w0.heap.size) : Below B W w :=
  h.chg.below hb hB2 (fun k hk => Nat.le_trans hB (hown.lt k hk).1)
def u64s (ls : List Nat) : List Value := ls.map fun x => Value.int .u64 (x : Nat)
theorem new_cells (w : World) (t : TypeId) (ls : List Nat) (i : Nat) (hi : i < ls.length) : (w.alloc (.cells (u64s ls).toArray t)).cell? ⟨w.heap.size, 0 + i, none⟩ = some (.int .u64 (ls.getD i 0 : Nat)) := by
  rw [Nat.zero_add, (Blk.new w t (u64s ls)).cell]
  simp [u64s, List.getD, hi]
theorem own_ne {w : World} {base : Nat} {e : TypeId} {v : Value} {n : Nat} {xs : List Value} (h : w.ownsRow base e 1 v n xs) : v.ownBlock ≠ some w.heap.size := fun e => by have := (h.lt _ e).2; omega
/-- put of numbers that were just laid down for it. -/
theorem put_new (base : Nat) (v : Value) (bs ls : List Nat) (w : World) (hown : w.ownsRow base 5 1 v bs.length (u8s bs)) (hbase : base ≤ w.heap.size)
    (hls : ∀ x ∈ ls, x < 18446744073709551616) (hlen : bs.length + 10 * ls.length ≤ 1099511627776) (cs : Array Value) (n : Nat) (hcs : cs = (u64s ls).toArray) (hn : n = ls.length) :
    Calls Try.prog 26 #[v, .slice (some ⟨w.heap.size, 0, none⟩) n n] (w.alloc (.cells cs 28)) fun e w' => ∃ v', e = .returned v' ∧ BRow w w' base v v' (bs ++ putL ls) := by
  subst hcs hn
  refine (put_calls base v bs ls w.heap.size 0 ls.length _ (hown.alloc _) (new_cells w _ ls) (own_ne hown) (by simp; omega) hls hlen).mono ?_
  rintro e w' ⟨v', he, hb⟩
  refine ⟨v', he, hb.own, ((Chg.refl _ w).alloc _).trans hb.chg (fun _ _ h => h), hb.blk.imp id (fun ⟨j, h1, h2⟩ => ⟨j, h1, by simp at h2; omega⟩)⟩

set_option maxRecDepth 100000 in
set_option maxHeartbeats 1000000 in
/-- PutNumber: behind the bytes, in new memory. -/
theorem putNumber_calls (A : Option Addr) (n cap : Nat) (bs : List Nat) (x : Nat) (w : World) (h : BsAt w A n cap bs) (hx : x < 18446744073709551616) (hn : n ≤ 1073741824) :
    Calls Try.prog 21 #[.slice A n cap, .int .u64 x] w fun e w' => ∃ v', e = .returned v' ∧ w'.ownsRow w.heap.size 5 1 v' (bs ++ putN x).length (u8s (bs ++ putN x)) ∧ Below w.heap.size w w' := by
  have H := Lib.hid h
  have HX := Lib.hid (And.intro hx hn)
  clear h hx hn
  go_enter Try.func21, Try.ntmps21
  go_wp2_with (at_builtin; (refine wpList_cat rfl (.tmp 5) (.tmp 6) rfl rfl w.heap.size _ [] bs A n cap rfl rfl ?h1 ?h2 ?h3 ?h4 ?_))
  case h1 => exact World.ownsRow_made (base := w.heap.size) (size := 1) (e := 5) w #[] 0 (Nat.le_refl _) (Nat.zero_le _) rfl
  case h2 => exact H.out.below (bnew (Below.refl _ _) _)
  case h3 => simp
  case h4 => have := HX.out.2; simp; omega
  intro v1 w1 hown hg hb
  have HO : Hid (w1.ownsRow w.heap.size 5 1 v1 bs.length (u8s bs)) := Lib.hid (by simpa [u8s] using hown)
  have HB : Hid (Below w.heap.size w w1) := Lib.hid ((bnew (Below.refl _ _) _).grown hg (by simp) (fun k hk => by
    have : k = w.heap.size := by simpa [Value.ownBlock] using hk.symm
    omega))
  clear hown hg hb
  go_wp2_with fail
  refine (put_new w.heap.size v1 bs [x] w1 HO.out HB.out.size (by simpa using HX.out.1) (by have := HX.out.2; have := H.out.1; simp; omega) _ 1 rfl rfl).mono ?_; rintro e w2 ⟨v2, rfl, hr⟩
  have HR := Lib.hid hr
  clear hr
  go_wp2
  go_ret
  refine ⟨v2, rfl, ?_, ?_⟩
  · have h := HR.out.own
    simpa [putL] using h
  · exact HR.out.below HO.out HB.out (Nat.le_refl _) HB.out.size
end Go.Proofs.Ytgfingdopelinaa
