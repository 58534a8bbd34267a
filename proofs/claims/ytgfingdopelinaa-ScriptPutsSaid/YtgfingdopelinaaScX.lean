/- what is put is read, and what is read was put. Plain. -/
import Derived.Test.YtgfingdopelinaaScY
namespace Go.Proofs.Ytgfingdopelinaa
set_option linter.unusedSimpArgs false
set_option linter.unusedVariables false
open Go.RowKit Go.Deep

theorem rnum_put (v : Nat) (t : List Nat) (b : Bool) (hv : v < 18446744073709551616) : rnum (putN v ++ t, b) = (v, (t, b)) := by
  unfold rnum
  simp only [rd_put v t hv, if_true]
  rw [List.drop_left]
theorem rsmall_put (m v : Nat) (t : List Nat) (b : Bool) (hm : m < 18446744073709551616) (hv : v ≤ m) : rsmall m (putN v ++ t, b) = (v, (t, b)) := by
  unfold rsmall
  rw [rnum_put v t b (by omega), if_neg (by simp only; omega)]
theorem rtext_put (s t : List Nat) (b : Bool) (hs : s.length ≤ 64) : rtext (putN s.length ++ s ++ t, b) = (s, (t, b)) := by
  unfold rtext
  rw [List.append_assoc, rsmall_put 64 s.length (s ++ t) b (by decide) hs, if_neg (by simp only [List.length_append]; omega)]
  simp only [List.take_left, List.drop_left]
theorem rtops_put (zs : List Nat) (t : List Nat) (b : Bool) (hz : ∀ z ∈ zs, z ≤ 2147483648) : rtops zs.length (putL zs ++ t, b) = (zs, (t, b)) := by
  induction zs with
  | nil => rfl
  | cons z zs ih =>
    have e : putL (z :: zs) ++ t = putN z ++ (putL zs ++ t) := by unfold putL; rw [List.flatMap_cons, List.append_assoc]
    rw [e]
    unfold List.length rtops
    rw [rsmall_put 2147483648 z _ b (by decide) (hz z (List.mem_cons_self ..)), ih (fun y hy => hz y (List.mem_cons_of_mem _ hy))]
theorem putL1 (v : Nat) : putL [v] = putN v := by simp [putL]
theorem putL_cons (v : Nat) (l : List Nat) : putL (v :: l) = putN v ++ putL l := by unfold putL; rw [List.flatMap_cons]
theorem putL_nil : putL [] = [] := rfl

theorem rhandle_put (k g : Nat) (t : List Nat) (b : Bool) (hk : k ≤ 7) (hg : g < 18446744073709551616) : rhandle (putN k ++ (putN g ++ t), b) = ((k, g), (t, b)) := by
  unfold rhandle
  rw [rsmall_put 7 k _ b (by decide) hk, rnum_put g t b hg]

/-- an entry that is right and clean, its numbers as they are. -/
inductive EnOk : En → Prop
  | pick (a : Nat) (h : a ≤ 63) : EnOk { enZero with thread := (a : Nat), pick := true }
  | k0 (a tp md : Nat) (tx : ByteArray) (h : a ≤ 63) (h1 : tp ≤ 3) (h2 : md ≤ 2) (h3 : tx.size ≤ 64) : EnOk { enZero with thread := (a : Nat), kind := ((0 : Nat) : Int), topic := (tp : Nat), mode := (md : Nat), text := tx }
  | k1 (a tp : Nat) (h : a ≤ 63) (h1 : tp ≤ 3) : EnOk { enZero with thread := (a : Nat), kind := ((1 : Nat) : Int), topic := (tp : Nat) }
  | k23 (a kd tp gk gn : Nat) (h : a ≤ 63) (h1 : tp ≤ 3) (h2 : kd = 2 ∨ kd = 3) (h3 : gk ≤ 7) (h4 : gn < 18446744073709551616) : EnOk { enZero with thread := (a : Nat), kind := (kd : Nat), topic := (tp : Nat), gk := (gk : Nat), gen := gn }
  | k4 (a tp gk gn ps : Nat) (h : a ≤ 63) (h1 : tp ≤ 3) (h3 : gk ≤ 7) (h4 : gn < 18446744073709551616) (h5 : ps < 18446744073709551616) : EnOk { enZero with thread := (a : Nat), kind := ((4 : Nat) : Int), topic := (tp : Nat), gk := (gk : Nat), gen := gn, pos := ps }

theorem EnOk.of {e : En} (hr : e.rightB = true) (hg : e.gen < 18446744073709551616) (hp : e.pos < 18446744073709551616) : EnOk e.clean := by
  unfold En.rightB callB at hr
  simp only [Bool.and_eq_true, Bool.or_eq_true, inB_true, decide_eq_true_eq] at hr
  obtain ⟨ht, hc⟩ := hr
  obtain ⟨a, ha⟩ : ∃ a : Nat, e.thread = a := ⟨e.thread.toNat, by omega⟩
  unfold En.clean at hc ⊢
  rw [ha]
  by_cases hpk : e.pick = true
  · rw [if_pos hpk]
    exact EnOk.pick a (by omega)
  · have hc := hc.resolve_left hpk
    rw [if_neg hpk] at hc ⊢
    by_cases h0 : e.kind = 0
    · rw [if_pos h0] at hc ⊢
      dsimp only at hc
      obtain ⟨tp, htp⟩ : ∃ a : Nat, e.topic = a := ⟨e.topic.toNat, by omega⟩
      obtain ⟨md, hmd⟩ : ∃ a : Nat, e.mode = a := ⟨e.mode.toNat, by omega⟩
      rw [h0, htp, hmd]
      exact EnOk.k0 a tp md e.text (by omega) (by omega) (by omega) (by omega)
    · rw [if_neg h0] at hc ⊢
      by_cases h4 : e.kind = 4
      · rw [if_pos h4] at hc ⊢
        dsimp only at hc
        obtain ⟨tp, htp⟩ : ∃ a : Nat, e.topic = a := ⟨e.topic.toNat, by omega⟩
        obtain ⟨gk, hgk⟩ : ∃ a : Nat, e.gk = a := ⟨e.gk.toNat, by omega⟩
        rw [h4, htp, hgk]
        exact EnOk.k4 a tp gk e.gen e.pos (by omega) (by omega) (by omega) hg hp
      · rw [if_neg h4] at hc ⊢
        by_cases h23 : e.kind = 2 ∨ e.kind = 3
        · rw [if_pos h23] at hc ⊢
          dsimp only at hc
          obtain ⟨kd, hkd⟩ : ∃ a : Nat, e.kind = a := ⟨e.kind.toNat, by omega⟩
          obtain ⟨tp, htp⟩ : ∃ a : Nat, e.topic = a := ⟨e.topic.toNat, by omega⟩
          obtain ⟨gk, hgk⟩ : ∃ a : Nat, e.gk = a := ⟨e.gk.toNat, by omega⟩
          rw [hkd, htp, hgk]
          exact EnOk.k23 a kd tp gk e.gen (by omega) (by omega) (by omega) (by omega) hg
        · rw [if_neg h23] at hc ⊢
          dsimp only at hc
          obtain ⟨tp, htp⟩ : ∃ a : Nat, e.topic = a := ⟨e.topic.toNat, by omega⟩
          have h1 : e.kind = ((1 : Nat) : Int) := by omega
          rw [h1, htp]
          exact EnOk.k1 a tp (by omega) (by omega)
theorem rentry_put {e : En} (h : EnOk e) (t : List Nat) (b : Bool) : rentry (putE e ++ t, b) = (e, (t, b)) := by
  cases h with
  | pick a h =>
    have e1 : putE { enZero with thread := (a : Nat), pick := true } = putN (2 * a + 1) := by unfold putE; simp [putL]
    rw [e1]
    unfold rentry
    rw [rsmall_put 127 (2 * a + 1) t b (by decide) (by omega), if_pos (by simp only; omega), show (2 * a + 1) / 2 = a by omega]
  | k0 a tp md tx h h1 h2 h3 =>
    have e1 : putE { enZero with thread := (a : Nat), kind := ((0 : Nat) : Int), topic := (tp : Nat), mode := (md : Nat), text := tx } ++ t = putN (2 * a) ++ (putN 0 ++ (putN tp ++ (putN md ++ (putN (bytesOf tx).length ++ bytesOf tx ++ t)))) := by
      unfold putE; simp [enZero, putL_cons, putL_nil, bytesOf_len]
    rw [e1]
    unfold rentry
    simp only [rsmall_put 127 (2 * a) _ b (by decide) (by omega), rsmall_put 4 0 _ b (by decide) (by omega), rsmall_put 3 tp _ b (by decide) h1, rsmall_put 2 md _ b (by decide) h2, rtext_put (bytesOf tx) t b (by rw [bytesOf_len]; exact h3), strOf_bytesOf]
    rw [if_neg (by omega), if_pos trivial, show 2 * a / 2 = a by omega]
  | k1 a tp h h1 =>
    have e1 : putE { enZero with thread := (a : Nat), kind := ((1 : Nat) : Int), topic := (tp : Nat) } ++ t = putN (2 * a) ++ (putN 1 ++ (putN tp ++ t)) := by
      unfold putE; simp [enZero, putL_cons, putL_nil]
    rw [e1]
    unfold rentry
    simp only [rsmall_put 127 (2 * a) _ b (by decide) (by omega), rsmall_put 4 1 _ b (by decide) (by omega), rsmall_put 3 tp _ b (by decide) h1]
    rw [if_neg (by omega), if_neg (by omega), if_pos trivial, show 2 * a / 2 = a by omega]
  | k23 a kd tp gk gn h h1 h2 h3 h4 =>
    have e1 : putE { enZero with thread := (a : Nat), kind := (kd : Nat), topic := (tp : Nat), gk := (gk : Nat), gen := gn } ++ t = putN (2 * a) ++ (putN kd ++ (putN tp ++ (putN gk ++ (putN gn ++ t)))) := by
      unfold putE
      rcases h2 with rfl | rfl <;> simp [enZero, putL_cons, putL_nil]
    rw [e1]
    unfold rentry
    simp only [rsmall_put 127 (2 * a) _ b (by decide) (by omega), rsmall_put 4 kd _ b (by decide) (by omega), rsmall_put 3 tp _ b (by decide) h1, rhandle_put gk gn t b h3 h4]
    rw [if_neg (by omega), if_neg (by omega), if_neg (by omega), if_neg (by omega), show 2 * a / 2 = a by omega]
  | k4 a tp gk gn ps h h1 h3 h4 h5 =>
    have e1 : putE { enZero with thread := (a : Nat), kind := ((4 : Nat) : Int), topic := (tp : Nat), gk := (gk : Nat), gen := gn, pos := ps } ++ t = putN (2 * a) ++ (putN 4 ++ (putN tp ++ (putN gk ++ (putN gn ++ (putN ps ++ t))))) := by
      unfold putE; simp [enZero, putL_cons, putL_nil]
    rw [e1]
    unfold rentry
    simp only [rsmall_put 127 (2 * a) _ b (by decide) (by omega), rsmall_put 4 4 _ b (by decide) (by omega), rsmall_put 3 tp _ b (by decide) h1, rhandle_put gk gn _ b h3 h4, rnum_put ps t b h5]
    rw [if_neg (by omega), if_neg (by omega), if_neg (by omega), if_pos trivial, show 2 * a / 2 = a by omega]
theorem rents_put (es : List En) (h : ∀ e ∈ es, EnOk e) (t : List Nat) : rents es.length (es.flatMap putE ++ t, false) = (es, (t, false)) := by
  induction es with
  | nil => rfl
  | cons e es ih =>
    rw [List.flatMap_cons, List.append_assoc]
    unfold List.length rents
    rw [if_neg (by simp), rentry_put (h e (List.mem_cons_self ..)), ih (fun x hx => h x (List.mem_cons_of_mem _ hx))]

/-! backward -/
theorem rnum_get {r : List Nat × Bool} (hb : ∀ x ∈ r.1, x < 256) (h : (rnum r).2.2 = false) : r.2 = false ∧ r.1 = putN (rnum r).1 ++ (rnum r).2.1 ∧ (rnum r).1 < 18446744073709551616 := by
  unfold rnum at h ⊢
  split at h
  · rename_i h0
    rw [if_pos h0]
    obtain ⟨h1, _, h3⟩ := rd_read hb (v := (rdN 0 0 r.1).1) (n := (rdN 0 0 r.1).2.1) (Prod.ext rfl (Prod.ext rfl h0))
    exact ⟨h, h1, h3⟩
  · simp at h
theorem rsmall_get {m : Nat} {r : List Nat × Bool} (hb : ∀ x ∈ r.1, x < 256) (h : (rsmall m r).2.2 = false) : r.2 = false ∧ r.1 = putN (rsmall m r).1 ++ (rsmall m r).2.1 ∧ (rsmall m r).1 ≤ m ∧ (rsmall m r).1 < 18446744073709551616 := by
  unfold rsmall at h ⊢
  split at h
  · simp at h
  · rename_i h0
    rw [if_neg h0]
    obtain ⟨h1, h2, h3⟩ := rnum_get hb h
    exact ⟨h1, h2, by omega, h3⟩
theorem rtext_get {r : List Nat × Bool} (hb : ∀ x ∈ r.1, x < 256) (h : (rtext r).2.2 = false) : r.2 = false ∧ r.1 = putN (rtext r).1.length ++ ((rtext r).1 ++ (rtext r).2.1) ∧ (rtext r).1.length ≤ 64 := by
  unfold rtext at h ⊢
  split at h
  · simp at h
  · rename_i h0
    rw [if_neg h0]
    obtain ⟨h1, h2, h3, _⟩ := rsmall_get hb h
    have hl : ((rsmall 64 r).2.1.take (rsmall 64 r).1).length = (rsmall 64 r).1 := by rw [List.length_take]; omega
    refine ⟨h1, ?_, by rw [hl]; exact h3⟩
    rw [hl, List.take_append_drop]
    exact h2
theorem bad_num {r : List Nat × Bool} (h : r.2 = true) : (rnum r).2.2 = true := by
  unfold rnum
  split
  · exact h
  · rfl
theorem bad_small {m : Nat} {r : List Nat × Bool} (h : r.2 = true) : (rsmall m r).2.2 = true := by
  unfold rsmall
  split
  · rfl
  · exact bad_num h
theorem bad_text {r : List Nat × Bool} (h : r.2 = true) : (rtext r).2.2 = true := by
  unfold rtext
  split
  · rfl
  · exact bad_small h
theorem mem_rest {a b c : List Nat} (h : a = b ++ c) (hb : ∀ x ∈ a, x < 256) : ∀ x ∈ c, x < 256 := fun x hx => hb x (by rw [h]; exact List.mem_append_right _ hx)
theorem rhandle_get {r : List Nat × Bool} (hb : ∀ x ∈ r.1, x < 256) (h : (rhandle r).2.2 = false) : r.2 = false ∧ r.1 = putN (rhandle r).1.1 ++ (putN (rhandle r).1.2 ++ (rhandle r).2.1) ∧ (rhandle r).1.1 ≤ 7 ∧ (rhandle r).1.2 < 18446744073709551616 := by
  unfold rhandle at h ⊢
  have hk : ∀ x ∈ (rsmall 7 r).2.1, x < 256 := by
    intro x hx
    cases hq : (rsmall 7 r).2.2 with
    | false => exact mem_rest (rsmall_get hb hq).2.1 hb x hx
    | true =>
      exfalso
      have := bad_num hq
      dsimp only at h
      rw [this] at h
      cases h
  obtain ⟨h1, h2, h3⟩ := rnum_get hk h
  obtain ⟨h4, h5, h6, _⟩ := rsmall_get hb h1
  exact ⟨h4, by rw [h5, h2], h6, h3⟩

theorem nb {x y : Bool} (h : x = true → y = true) (hy : y = false) : x = false := by
  cases x with
  | false => rfl
  | true => rw [h rfl] at hy; cases hy
theorem bad_handle {r : List Nat × Bool} (h : r.2 = true) : (rhandle r).2.2 = true := by
  unfold rhandle
  exact bad_num (bad_small h)
theorem pick_eq (a : Nat) : putE { enZero with thread := (a : Nat), pick := true } = putN (2 * a + 1) := by unfold putE; simp [putL]
theorem e0_eq (a tp md : Nat) (tx : ByteArray) : putE { enZero with thread := (a : Nat), kind := ((0 : Nat) : Int), topic := (tp : Nat), mode := (md : Nat), text := tx } = putN (2 * a) ++ (putN 0 ++ (putN tp ++ (putN md ++ (putN (bytesOf tx).length ++ bytesOf tx)))) := by
  unfold putE; simp [enZero, putL_cons, putL_nil, bytesOf_len]
theorem e1_eq (a tp : Nat) : putE { enZero with thread := (a : Nat), kind := ((1 : Nat) : Int), topic := (tp : Nat) } = putN (2 * a) ++ (putN 1 ++ putN tp) := by
  unfold putE; simp [enZero, putL_cons, putL_nil]
theorem e23_eq (a kd tp gk gn : Nat) (h2 : kd = 2 ∨ kd = 3) : putE { enZero with thread := (a : Nat), kind := (kd : Nat), topic := (tp : Nat), gk := (gk : Nat), gen := gn } = putN (2 * a) ++ (putN kd ++ (putN tp ++ (putN gk ++ putN gn))) := by
  unfold putE
  rcases h2 with rfl | rfl <;> simp [enZero, putL_cons, putL_nil]
theorem e4_eq (a tp gk gn ps : Nat) : putE { enZero with thread := (a : Nat), kind := ((4 : Nat) : Int), topic := (tp : Nat), gk := (gk : Nat), gen := gn, pos := ps } = putN (2 * a) ++ (putN 4 ++ (putN tp ++ (putN gk ++ (putN gn ++ putN ps)))) := by
  unfold putE; simp [enZero, putL_cons, putL_nil]
set_option maxHeartbeats 2000000 in
theorem rentry_get {r : List Nat × Bool} (hb : ∀ x ∈ r.1, x < 256) (h : (rentry r).2.2 = false) : r.2 = false ∧ r.1 = putE (rentry r).1 ++ (rentry r).2.1 ∧ EnOk (rentry r).1 := by
  unfold rentry at h ⊢
  by_cases hp : (rsmall 127 r).1 % 2 = 1
  · rw [if_pos hp] at h ⊢
    obtain ⟨h1, h2, h3, _⟩ := rsmall_get hb h
    refine ⟨h1, ?_, EnOk.pick _ (by omega)⟩
    dsimp only
    rw [pick_eq, show 2 * ((rsmall 127 r).1 / 2) + 1 = (rsmall 127 r).1 by omega]
    exact h2
  · rw [if_neg hp] at h ⊢
    dsimp only at h ⊢
    obtain ⟨v, hv⟩ : ∃ v, (rsmall 127 r).1 = v := ⟨_, rfl⟩
    obtain ⟨r1, hr1⟩ : ∃ v, (rsmall 127 r).2 = v := ⟨_, rfl⟩
    obtain ⟨kd, hkd⟩ : ∃ v, (rsmall 4 r1).1 = v := ⟨_, rfl⟩
    obtain ⟨r2, hr2⟩ : ∃ v, (rsmall 4 r1).2 = v := ⟨_, rfl⟩
    obtain ⟨tp, htp⟩ : ∃ v, (rsmall 3 r2).1 = v := ⟨_, rfl⟩
    obtain ⟨r3, hr3⟩ : ∃ v, (rsmall 3 r2).2 = v := ⟨_, rfl⟩
    rw [hv] at hp
    rw [hv, hr1, hkd, hr2, htp, hr3] at h ⊢
    -- the first three numbers, once nothing is bad behind them
    have head : r3.2 = false → r.2 = false ∧ r.1 = putN (2 * (v / 2)) ++ (putN kd ++ (putN tp ++ r3.1)) ∧ v / 2 ≤ 63 ∧ kd ≤ 4 ∧ tp ≤ 3 ∧ ∀ x ∈ r3.1, x < 256 := by
      intro h3
      have n3 : (rsmall 3 r2).2.2 = false := by rw [hr3]; exact h3
      have n2 : (rsmall 4 r1).2.2 = false := by rw [hr2]; exact nb (bad_small (m := 3) (r := r2)) n3
      have n1 : (rsmall 127 r).2.2 = false := by rw [hr1]; exact nb (bad_small (m := 4) (r := r1)) n2
      obtain ⟨a1, a2, a3, _⟩ := rsmall_get hb n1
      rw [hr1, hv] at a2
      rw [hv] at a3
      have b1 := mem_rest a2 hb
      obtain ⟨_, b2, b3, _⟩ := rsmall_get b1 n2
      rw [hr2, hkd] at b2
      rw [hkd] at b3
      have c1 := mem_rest b2 b1
      obtain ⟨_, c2, c3, _⟩ := rsmall_get c1 n3
      rw [hr3, htp] at c2
      rw [htp] at c3
      refine ⟨a1, ?_, by omega, b3, c3, mem_rest c2 c1⟩
      rw [show 2 * (v / 2) = v by omega, a2, b2, c2]
    by_cases h0 : kd = 0
    · rw [if_pos h0] at h ⊢
      obtain ⟨md, hmd⟩ : ∃ v, (rsmall 2 r3).1 = v := ⟨_, rfl⟩
      obtain ⟨r4, hr4⟩ : ∃ v, (rsmall 2 r3).2 = v := ⟨_, rfl⟩
      rw [hmd, hr4] at h ⊢
      dsimp only at h ⊢
      have n4 : r4.2 = false := nb (bad_text (r := r4)) h
      have n4' : (rsmall 2 r3).2.2 = false := by rw [hr4]; exact n4
      have n3 : r3.2 = false := nb (bad_small (m := 2) (r := r3)) n4'
      obtain ⟨a1, a2, a3, a4, a5, a6⟩ := head n3
      obtain ⟨_, b2, b3, _⟩ := rsmall_get a6 n4'
      rw [hr4, hmd] at b2
      rw [hmd] at b3
      have b4 := mem_rest b2 a6
      obtain ⟨_, c2, c3⟩ := rtext_get b4 h
      have hlt : ∀ x ∈ (rtext r4).1, x < 256 := fun x hx => b4 x (by rw [c2]; exact List.mem_append_right _ (List.mem_append_left _ hx))
      subst h0
      refine ⟨a1, ?_, EnOk.k0 _ tp md _ a3 a5 b3 (by rw [strOf_len]; exact c3)⟩
      rw [e0_eq, bytesOf_strOf _ hlt, a2, b2, c2]
      simp
    · rw [if_neg h0] at h ⊢
      by_cases h1 : kd = 1
      · rw [if_pos h1] at h ⊢
        dsimp only at h ⊢
        obtain ⟨a1, a2, a3, a4, a5, a6⟩ := head h
        subst h1
        refine ⟨a1, ?_, EnOk.k1 _ tp a3 a5⟩
        rw [e1_eq, a2]
        simp
      · rw [if_neg h1] at h ⊢
        obtain ⟨gk, hgk⟩ : ∃ v, (rhandle r3).1.1 = v := ⟨_, rfl⟩
        obtain ⟨gn, hgn⟩ : ∃ v, (rhandle r3).1.2 = v := ⟨_, rfl⟩
        obtain ⟨r4, hr4⟩ : ∃ v, (rhandle r3).2 = v := ⟨_, rfl⟩
        rw [hgk, hgn, hr4] at h ⊢
        by_cases h4 : kd = 4
        · rw [if_pos h4] at h ⊢
          dsimp only at h ⊢
          have n4 : r4.2 = false := nb (bad_num (r := r4)) h
          have n4' : (rhandle r3).2.2 = false := by rw [hr4]; exact n4
          obtain ⟨a1, a2, a3, a4, a5, a6⟩ := head (nb (bad_handle (r := r3)) n4')
          obtain ⟨_, b2, b3, b5⟩ := rhandle_get a6 n4'
          rw [hr4, hgk, hgn] at b2
          rw [hgk] at b3
          rw [hgn] at b5
          have b4 : ∀ x ∈ r4.1, x < 256 := fun x hx => a6 x (by rw [b2]; exact List.mem_append_right _ (List.mem_append_right _ hx))
          obtain ⟨_, c2, c3⟩ := rnum_get b4 h
          subst h4
          refine ⟨a1, ?_, EnOk.k4 _ tp gk gn _ a3 a5 b3 b5 c3⟩
          rw [e4_eq, a2, b2, c2]
          simp
        · rw [if_neg h4] at h ⊢
          dsimp only at h ⊢
          have n4' : (rhandle r3).2.2 = false := by rw [hr4]; exact h
          obtain ⟨a1, a2, a3, a4, a5, a6⟩ := head (nb (bad_handle (r := r3)) n4')
          obtain ⟨_, b2, b3, b5⟩ := rhandle_get a6 n4'
          rw [hr4, hgk, hgn] at b2
          rw [hgk] at b3
          rw [hgn] at b5
          refine ⟨a1, ?_, EnOk.k23 _ kd tp gk gn a3 a5 (by omega) b3 b5⟩
          rw [e23_eq _ _ _ _ _ (by omega), a2, b2]
          simp
end Go.Proofs.Ytgfingdopelinaa
