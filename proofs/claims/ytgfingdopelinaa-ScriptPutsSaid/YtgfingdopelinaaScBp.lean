/- plain laws of ScriptBack: lengths; what is put is read, cut or with one more it is none. -/
import Derived.Test.YtgfingdopelinaaScV
import Derived.Test.YtgfingdopelinaaScT
import Derived.Test.YtgfingdopelinaaScZ
namespace Go.Proofs.Ytgfingdopelinaa
set_option linter.unusedSimpArgs false
set_option linter.unusedVariables false
open Go.RowKit Go.Deep

theorem putL2 (a b : Nat) (l : List Nat) : (putL (a :: b :: l)).length = (putN a).length + ((putN b).length + (putL l).length) := by rw [putL_cons, putL_cons, List.length_append, List.length_append]
theorem putE_len {e : En} (h : EnOk e) : (putE e).length ≤ 120 := by
  cases h with
  | pick a h =>
    unfold putE
    rw [if_pos rfl]
    refine Nat.le_trans (putL_len _ ?_) (by simp)
    intro v hv
    simp at hv
    omega
  | k0 a tp md tx h h1 h2 h3 =>
    have e1 : (putE { enZero with thread := (a : Nat), kind := ((0 : Nat) : Int), topic := (tp : Nat), mode := (md : Nat), text := tx }) = putL [2 * a, 0, tp] ++ (putL [md, tx.size] ++ bytesOf tx) := by
      unfold putE; simp [enZero]
    rw [e1, List.length_append, List.length_append, bytesOf_len]
    have l1 := putL_len [2 * a, 0, tp] (by intro v hv; simp at hv; omega)
    have l2 := putL_len [md, tx.size] (by intro v hv; simp at hv; omega)
    simp at l1 l2
    omega
  | k1 a tp h h1 =>
    have e1 : (putE { enZero with thread := (a : Nat), kind := ((1 : Nat) : Int), topic := (tp : Nat) }) = putL [2 * a, 1, tp] := by
      unfold putE; simp [enZero]
    rw [e1]
    have l1 := putL_len [2 * a, 1, tp] (by intro v hv; simp at hv; omega)
    simp at l1
    omega
  | k23 a kd tp gk gn h h1 h2 h3 h4 =>
    have e1 : (putE { enZero with thread := (a : Nat), kind := (kd : Nat), topic := (tp : Nat), gk := (gk : Nat), gen := gn }) = putL [2 * a, kd, tp] ++ putL [gk, gn] := by
      unfold putE; rcases h2 with rfl | rfl <;> simp [enZero]
    rw [e1, List.length_append]
    have l1 := putL_len [2 * a, kd, tp] (by intro v hv; simp at hv; omega)
    have l2 := putL_len [gk, gn] (by intro v hv; simp at hv; omega)
    simp at l1 l2
    omega
  | k4 a tp gk gn ps h h1 h3 h4 h5 =>
    have e1 : (putE { enZero with thread := (a : Nat), kind := ((4 : Nat) : Int), topic := (tp : Nat), gk := (gk : Nat), gen := gn, pos := ps }) = putL [2 * a, 4, tp] ++ putL [gk, gn, ps] := by
      unfold putE; simp [enZero]
    rw [e1, List.length_append]
    have l1 := putL_len [2 * a, 4, tp] (by intro v hv; simp at hv; omega)
    have l2 := putL_len [gk, gn, ps] (by intro v hv; simp at hv; omega)
    simp at l1 l2
    omega
theorem flat_len (es : List En) (h : ∀ e ∈ es, EnOk e.clean) : (es.flatMap (fun e => putE e.clean)).length ≤ 120 * es.length := by
  induction es with
  | nil => simp
  | cons e es ih =>
    rw [List.flatMap_cons, List.length_append, List.length_cons]
    have := putE_len (h e (List.mem_cons_self ..))
    have := ih (fun y hy => h y (List.mem_cons_of_mem _ hy))
    omega
theorem putS_len {t words blocks sweep : Int} {zs : List Int} {es : List En} (hc : confB t words blocks sweep zs = true) (hs : sweep < 9223372036854775808) (hm : es.length ≤ 50) (he : ∀ e ∈ es, EnOk e.clean) :
    7 ≤ (putS t words blocks sweep zs es).length ∧ (putS t words blocks sweep zs es).length ≤ 10000 := by
  obtain ⟨h1, h2, h3, h4, h5, h6⟩ := confB_bounds hc
  have hf := flat_len es he
  unfold putS
  rw [List.length_append, List.length_append, List.length_append]
  have a1 := putL_len [t.toNat, zs.length] (by intro v hv; simp at hv; omega)
  have a2 := putL_len (zs.map Int.toNat) (by intro v hv; obtain ⟨z, hz, rfl⟩ := List.mem_map.1 hv; have := h6 z hz; omega)
  have a3 := putL_len [words.toNat, blocks.toNat, sweep.toNat, es.length] (by intro v hv; simp at hv; omega)
  have b1 : 2 ≤ (putL [t.toNat, zs.length]).length := by
    rw [putL2]; have := putN_pos t.toNat; have := putN_pos zs.length; omega
  have b3 : 4 ≤ (putL [words.toNat, blocks.toNat, sweep.toNat, es.length]).length := by
    rw [putL2, putL2]; have := putN_pos words.toNat; have := putN_pos blocks.toNat; have := putN_pos sweep.toNat; have := putN_pos es.length; omega
  have b2 : 1 ≤ (putL (zs.map Int.toNat)).length := by
    cases zs with
    | nil => simp at h2
    | cons z zs => rw [List.map_cons, putL_cons, List.length_append]; have := putN_pos z.toNat; omega
  simp only [List.length_cons, List.length_nil, List.length_map] at a1 a2 a3
  omega
theorem put_clean (t words blocks sweep : Int) (zs : List Int) (es : List En) (he : ∀ e ∈ es, EnOk e.clean) : putS t words blocks sweep zs es = putS t words blocks sweep zs (es.map En.clean) := by
  unfold putS
  rw [List.length_map]
  congr 1
  rw [List.flatMap_map]
  apply flat_congr
  intro e h
  rw [(enok_clean (he e h)).1]
theorem putL_lt (l : List Nat) : ∀ x ∈ putL l, x < 256 := by
  intro x hx
  unfold putL at hx
  obtain ⟨v, _, hv⟩ := List.mem_flatMap.1 hx
  exact putN_lt v x hv
theorem putE_lt (e : En) : ∀ x ∈ putE e, x < 256 := by
  intro x hx
  unfold putE at hx
  split at hx
  · exact putL_lt _ x hx
  · rcases List.mem_append.1 hx with hx | hx
    · exact putL_lt _ x hx
    · split at hx
      · rcases List.mem_append.1 hx with hx | hx
        · exact putL_lt _ x hx
        · exact bytesOf_lt _ x hx
      · split at hx
        · exact putL_lt _ x hx
        · split at hx
          · exact putL_lt _ x hx
          · cases hx
theorem put_lt {t words blocks sweep : Int} {zs : List Int} {es : List En} : ∀ x ∈ putS t words blocks sweep zs es, x < 256 := by
  intro x hx
  unfold putS at hx
  rcases List.mem_append.1 hx with hx | hx
  · rcases List.mem_append.1 hx with hx | hx
    · rcases List.mem_append.1 hx with hx | hx
      · exact putL_lt _ x hx
      · exact putL_lt _ x hx
    · exact putL_lt _ x hx
  · obtain ⟨e, _, he⟩ := List.mem_flatMap.1 hx
    exact putE_lt _ x he
/-- what is read of bytes that a conf and entries were put to, and more. -/
theorem back_read {t words blocks sweep : Int} {zs : List Int} {es : List En} (u : List Nat) (hc : confB t words blocks sweep zs = true) (hs : sweep < 9223372036854775808) (hm : es.length ≤ 65536) (he : ∀ e ∈ es, EnOk e.clean) (bs : List Nat) (hbs : bs = putS t words blocks sweep zs es ++ u) :
    (((rdA bs).1 : Nat) : Int) = t ∧ toInts (rdT bs).1 = zs ∧ (((rdW bs).1 : Nat) : Int) = words ∧ (((rdB bs).1 : Nat) : Int) = blocks ∧ (((rdS bs).1 : Nat) : Int) = sweep ∧ rdE bs = (es.map En.clean, (u, false)) := by
  obtain ⟨h1, h2, h3, h4, h5, h6⟩ := confB_bounds hc
  obtain ⟨zn, hzn, hl⟩ : ∃ zn : List Nat, zs = toInts zn ∧ ∀ z ∈ zn, z ≤ 2147483648 := by
    refine ⟨zs.map Int.toNat, ?_, ?_⟩
    · unfold toInts
      rw [List.map_map]
      conv => lhs; rw [← List.map_id zs]
      apply List.map_congr_left
      intro z hz
      have := h6 z hz
      simp; omega
    · intro v hv
      obtain ⟨z, hz, rfl⟩ := List.mem_map.1 hv
      have := h6 z hz
      omega
  obtain ⟨a, rfl⟩ : ∃ a : Nat, t = a := ⟨t.toNat, by omega⟩
  obtain ⟨wd, rfl⟩ : ∃ a : Nat, words = a := ⟨words.toNat, by omega⟩
  obtain ⟨bk, rfl⟩ : ∃ a : Nat, blocks = a := ⟨blocks.toNat, by omega⟩
  obtain ⟨sp, rfl⟩ : ∃ a : Nat, sweep = a := ⟨sweep.toNat, by omega⟩
  rw [put_clean _ _ _ _ _ _ he] at hbs
  subst hzn
  rw [toInts_len] at h2
  obtain ⟨p1, p2, p3, p4, p5, p6⟩ := put_read a wd bk sp zn (es.map En.clean) u (by omega) h2.2 hl (by omega) (by omega) (by omega) (by rw [List.length_map]; exact hm) (by intro e h; obtain ⟨x, hx, rfl⟩ := List.mem_map.1 h; exact he x hx) bs hbs
  rw [p1, p2, p3, p4, p5]
  exact ⟨rfl, rfl, rfl, rfl, rfl, p6⟩
theorem back_ok {t words blocks sweep : Int} {zs : List Int} {es : List En} (hc : confB t words blocks sweep zs = true) (hs : sweep < 9223372036854775808) (hm : es.length ≤ 65536) (he : ∀ e ∈ es, EnOk e.clean) (bs : List Nat) (hbs : bs = putS t words blocks sweep zs es) : rdOk bs = true := by
  obtain ⟨p1, p2, p3, p4, p5, p6⟩ := back_read [] hc hs hm he bs (by rw [hbs, List.append_nil])
  unfold rdOk
  rw [p1, p2, p3, p4, p5, p6, hc]
  simp
  omega
theorem back_more {t words blocks sweep : Int} {zs : List Int} {es : List En} (x : Nat) (hc : confB t words blocks sweep zs = true) (hs : sweep < 9223372036854775808) (hm : es.length ≤ 65536) (he : ∀ e ∈ es, EnOk e.clean) (bs : List Nat) (hbs : bs = putS t words blocks sweep zs es ++ [x]) : rdOk bs = false := by
  obtain ⟨p1, p2, p3, p4, p5, p6⟩ := back_read [x] hc hs hm he bs hbs
  unfold rdOk
  rw [p6]
  simp
theorem back_cut {t words blocks sweep : Int} {zs : List Int} {es : List En} (x : Nat) (hc : confB t words blocks sweep zs = true) (hs : sweep < 9223372036854775808) (hm : es.length ≤ 65536) (he : ∀ e ∈ es, EnOk e.clean) (bs : List Nat) (hbs : bs ++ [x] = putS t words blocks sweep zs es) : rdOk bs = false := by
  cases hok : rdOk bs with
  | false => rfl
  | true =>
    have hb : ∀ y ∈ bs, y < 256 := fun y hy => put_lt y (by rw [← hbs]; exact List.mem_append_left _ hy)
    obtain ⟨q1, q2, q3⟩ := read_put hb hok
    have hcf : confB ((rdA bs).1 : Nat) ((rdW bs).1 : Nat) ((rdB bs).1 : Nat) ((rdS bs).1 : Nat) (toInts (rdT bs).1) = true ∧ (rdS bs).1 < 9223372036854775808 := by
      have h := hok
      unfold rdOk at h
      simp only [Bool.and_eq_true, decide_eq_true_eq] at h
      exact ⟨h.2, h.1.2⟩
    have h1 := back_read [x] hcf.1 (by have := hcf.2; omega) q3 (fun e h => by rw [(enok_clean (q2 e h)).1]; exact q2 e h) (bs ++ [x]) (by conv => lhs; rw [q1])
    have h2 := back_read [] hc hs hm he (bs ++ [x]) (by rw [hbs, List.append_nil])
    have h3 := h1.2.2.2.2.2.symm.trans h2.2.2.2.2.2
    have h4 : [x] = ([] : List Nat) := congrArg (fun p => p.2.1) h3
    simp at h4
end Go.Proofs.Ytgfingdopelinaa
