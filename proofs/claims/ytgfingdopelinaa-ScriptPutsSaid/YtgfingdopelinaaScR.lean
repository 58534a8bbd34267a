/- contracts of the reader's functions. -/
import Derived.Test.YtgfingdopelinaaScN
import Derived.StillTailTactics
namespace Go.Proofs.Ytgfingdopelinaa
set_option linter.unusedSimpArgs false
set_option linter.unusedVariables false
open Go.RowKit Go.Deep

/-- the bytes lie ahead of block rb. -/
def AtLt (A : Option Addr) (rb : Nat) : Prop := ∀ a, A = some a → a.block < rb
theorem add_block (a : Addr) (k : Nat) : (a.add k).block = a.block := by unfold Addr.add; split <;> rfl
theorem AtLt.map {A : Option Addr} {rb : Nat} (h : AtLt A rb) (k : Nat) : AtLt (A.map (fun x => x.add k)) rb := by
  intro a e
  obtain ⟨b, hb, rfl⟩ := Option.map_eq_some_iff.1 e
  rw [add_block]
  exact h b hb
theorem AtLt.none (rb : Nat) : AtLt none rb := fun a e => by cases e
/-- A reader at block rb: the bytes that are left, and whether something was bad. -/
def RdAt (w : World) (rb : Nat) (r : List Nat × Bool) : Prop := ∃ (A : Option Addr) (n cap : Nat), Blk w rb 67 [.slice A n cap, .bool r.2] ∧ BsAt w A n cap r.1 ∧ (0 < n → AtLt A rb)
theorem RdAt.chg {S : Nat → Prop} {w w' : World} {rb : Nat} {r : List Nat × Bool} (h : RdAt w rb r) (hc : Chg S w w') (h1 : ¬ S rb) (h2 : ∀ k, k < w.heap.size → S k → ∀ o x, w.cell? ⟨k, o, none⟩ ≠ some (.int .u8 x)) : RdAt w' rb r := by
  obtain ⟨A, n, cap, hb, hs, hA⟩ := h
  refine ⟨A, n, cap, hb.chg hc h1, hs.kept (fun a u ha hu => hc.cell ha fun hsa => ?_), hA⟩
  obtain ⟨x, rfl⟩ := hu
  obtain ⟨b, o, sp⟩ := a
  have : sp = none := spot_none ha
  subst this
  exact h2 b (World.block_lt_of_cell? w _ ha) hsa o x ha
theorem RdAt.after {S : Nat → Prop} {w w' : World} {rb : Nat} {r : List Nat × Bool} (h : RdAt w rb r) (hc : Chg S w w') (h1 : ∀ k, S k → rb < k) : RdAt w' rb r := by
  obtain ⟨A, n, cap, hb, hs, hA⟩ := h
  refine ⟨A, n, cap, hb.chg hc (fun h => by have := h1 _ h; omega), ?_, hA⟩
  refine ⟨hs.1, hs.2.1, hs.2.2.1, hs.2.2.2.1, fun h0 => ?_, hs.2.2.2.2.2⟩
  obtain ⟨b, off, e, hcell⟩ := hs.2.2.2.2.1 h0
  exact ⟨b, off, e, fun i hi => hc.cell (hcell i hi) (fun hsb => by have a1 := h1 _ hsb; have a2 := hA h0 _ e; simp only at a1 a2; omega)⟩
theorem bs_store {w : World} {A : Option Addr} {n cap : Nat} {bs : List Nat} {rb : Nat} {ty : TypeId} {cs : List Value} (h : BsAt w A n cap bs) (hb : Blk w rb ty cs) (hcs : ∀ v ∈ cs, ∀ x, v ≠ .int .u8 x) {w' : World} (hc : Chg (fun j => j = rb) w w') : BsAt w' A n cap bs := by
  refine h.kept fun a u ha hu => hc.cell ha fun e => ?_
  obtain ⟨x, rfl⟩ := hu
  obtain ⟨b, o, sp⟩ := a
  have : sp = none := spot_none ha
  subst this
  subst e
  rw [hb.cell] at ha
  exact hcs _ (List.mem_of_getElem? ha) x rfl

def rnum (r : List Nat × Bool) : Nat × (List Nat × Bool) := if (rdN 0 0 r.1).2.2 = 0 then ((rdN 0 0 r.1).1, (r.1.drop (rdN 0 0 r.1).2.1, r.2)) else (0, ([], true))

set_option maxRecDepth 100000 in
set_option maxHeartbeats 1000000 in
theorem rnumber_calls (rb : Nat) (r : List Nat × Bool) (w : World) (h : RdAt w rb r) :
    Calls Try.prog 29 #[.pointer (some ⟨rb, 0, none⟩)] w fun e w' => e = .returned (.int .u64 ((rnum r).1 : Nat)) ∧ RdAt w' rb (rnum r).2 ∧ Chg (fun j => j = rb) w w' := by
  obtain ⟨A, n, cap, hb, hs, hA⟩ := h
  have HA := Lib.hid hA
  clear hA
  have c0 : w.cell? ⟨rb, 0, none⟩ = some (.slice A n cap) := hb.cell 0
  have c1 : w.cell? ⟨rb, 1, none⟩ = some (.bool r.2) := hb.cell 1
  have z0 := hb.free 0
  have z1 := hb.free 1
  have HN := Lib.hid (number_calls A n cap r.1 w hs)
  have HB := Lib.hid hb
  have HS := Lib.hid hs
  obtain ⟨v, hv⟩ : ∃ v, (rdN 0 0 r.1).1 = v := ⟨_, rfl⟩
  obtain ⟨k, hk⟩ : ∃ k, (rdN 0 0 r.1).2.1 = k := ⟨_, rfl⟩
  obtain ⟨c, hc⟩ : ∃ c, (rdN 0 0 r.1).2.2 = c := ⟨_, rfl⟩
  rw [hv, hk, hc] at HN
  have HV := Lib.hid (And.intro hv (And.intro hk hc))
  have hkn : c = 0 → k ≤ n := fun h0 => by
    have := (rd_len hs.2.2.2.1 (v := v) (n := k) (by rw [← hv, ← hk]; rw [h0] at hc; exact Prod.ext rfl (Prod.ext rfl hc))).2
    rw [hs.1] at this; exact this
  have hn64 : n ≤ 9223372036854775807 := by have := hs.2.1; have := hs.2.2.1; omega
  have hncap := hs.2.1
  clear hb hs hv hk hc
  by_cases hc0 : c = 0
  · have t0 : ((c : Int) == 0) = true := by rw [beq_iff_eq]; omega
    have hkn' := hkn hc0
    have hrn : rnum r = (v, (r.1.drop k, r.2)) := by unfold rnum; rw [if_pos (by rw [HV.out.2.2, hc0]), HV.out.1, HV.out.2.1]
    have hdrop := HS.out.drop hkn'
    have HC := Lib.hid hc0
    have HR := Lib.hid hrn
    clear hkn hc0 hrn
    by_cases hcap : cap = k
    · rw [if_pos hcap] at hdrop
      have HD := Lib.hid hdrop
      clear hdrop
      obtain rfl : n = k := by omega
      subst hcap
      go_enter Try.func29, Try.ntmps29
      go_wp2_with fail
      refine HN.out.mono ?_; rintro e w' ⟨rfl, rfl⟩
      go_wp2
      go_ret
      rw [HR.out]
      refine ⟨rfl, ⟨_, _, _, HB.out.set 0 _, bs_store (by simpa using HD.out) HB.out (by simp) (((Chg.refl _ _).setCell _ _ (fun _ => rfl))), fun h => HA.out (by omega)⟩, ((Chg.refl _ _).setCell _ _ (fun _ => rfl))⟩
    · rw [if_neg hcap] at hdrop
      have HD := Lib.hid hdrop
      clear hdrop
      go_enter Try.func29, Try.ntmps29
      go_wp2_with fail
      refine HN.out.mono ?_; rintro e w' ⟨rfl, rfl⟩
      go_wp2
      go_ret
      rw [HR.out]
      refine ⟨rfl, ⟨_, _, _, HB.out.set 0 _, bs_store (by simpa using HD.out) HB.out (by simp) (((Chg.refl _ _).setCell _ _ (fun _ => rfl))), fun h => (HA.out (by omega)).map k⟩, ((Chg.refl _ _).setCell _ _ (fun _ => rfl))⟩
  · have t0 : ((c : Int) == 0) = false := by rw [beq_eq_false_iff_ne]; omega
    have hrn : rnum r = (0, ([], true)) := by unfold rnum; rw [if_neg (by rw [HV.out.2.2]; exact hc0)]
    have HC := Lib.hid hc0
    have HR := Lib.hid hrn
    clear hkn hc0 hrn
    go_enter Try.func29, Try.ntmps29
    go_wp2_with fail
    refine HN.out.mono ?_; rintro e w' ⟨rfl, rfl⟩
    go_wp2
    go_ret
    rw [HR.out]
    exact ⟨rfl, ⟨none, 0, 0, (HB.out.set 0 _).set 1 _, bs_nil _, fun _ => AtLt.none _⟩, (((Chg.refl (fun j => j = rb) w).setCell _ _ (fun _ => rfl)).setCell _ _ (fun _ => rfl))⟩

theorem rnum_lt {r : List Nat × Bool} (h : ∀ x ∈ r.1, x < 256) : (rnum r).1 < 18446744073709551616 := by
  unfold rnum
  split
  · rename_i h0
    exact (rd_read h (v := (rdN 0 0 r.1).1) (n := (rdN 0 0 r.1).2.1) (Prod.ext rfl (Prod.ext rfl h0))).2.2
  · decide
def rsmall (m : Nat) (r : List Nat × Bool) : Nat × (List Nat × Bool) := if m < (rnum r).1 then (0, ((rnum r).2.1, true)) else rnum r
theorem RdAt.lt {w : World} {rb : Nat} {r : List Nat × Bool} (h : RdAt w rb r) : ∀ x ∈ r.1, x < 256 := by
  obtain ⟨_, _, _, _, hs, _⟩ := h
  exact hs.2.2.2.1
set_option maxRecDepth 100000 in
set_option maxHeartbeats 1000000 in
theorem rsmall_calls (rb m : Nat) (r : List Nat × Bool) (w : World) (h : RdAt w rb r) (hm : m < 9223372036854775808) :
    Calls Try.prog 28 #[.pointer (some ⟨rb, 0, none⟩), .int .i64 m] w fun e w' => e = .returned (.int .i64 ((rsmall m r).1 : Nat)) ∧ RdAt w' rb (rsmall m r).2 ∧ Chg (fun j => j = rb) w w' := by
  have hlt := rnum_lt h.lt
  have HN := Lib.hid (rnumber_calls rb r w h)
  obtain ⟨v, hv⟩ : ∃ v, (rnum r).1 = v := ⟨_, rfl⟩
  obtain ⟨r2, hr2⟩ : ∃ r2, (rnum r).2 = r2 := ⟨_, rfl⟩
  rw [hv, hr2] at HN
  rw [hv] at hlt
  by_cases hmv : m < v
  · have t0 : decide (m < v) = true := by simp; omega
    have hrs : rsmall m r = (0, (r2.1, true)) := by unfold rsmall; rw [hv, if_pos hmv, hr2]
    rw [hrs]
    have HMV := Lib.hid hmv
    clear hmv hrs hv hr2 h
    go_enter Try.func28, Try.ntmps28
    go_wp2_with fail
    refine HN.out.mono ?_; rintro e w1 ⟨rfl, hr, hc⟩
    obtain ⟨A, n, cap, hb, hs, hA⟩ := hr
    have HA := Lib.hid hA
    clear hA
    have c1 : w1.cell? ⟨rb, 1, none⟩ = some (.bool r2.2) := hb.cell 1
    have z1 := hb.free 1
    have HB := Lib.hid (And.intro hb (And.intro hs hc))
    clear hb hs hc
    go_wp2
    go_ret
    exact ⟨rfl, ⟨A, n, cap, HB.out.1.set 1 _, bs_store HB.out.2.1 HB.out.1 (by simp) ((Chg.refl (fun j => j = rb) w1).setCell _ _ (fun _ => rfl)), HA.out⟩, HB.out.2.2.setCell _ _ (fun _ => rfl)⟩
  · have t0 : decide (m < v) = false := by simp; omega
    have hrs : rsmall m r = (v, r2) := by unfold rsmall; rw [hv, if_neg hmv, ← hv, ← hr2]
    rw [hrs]
    have hv63 : v ≤ 9223372036854775807 := by omega
    have HMV := Lib.hid hmv
    clear hmv hrs hv hr2 h
    go_enter Try.func28, Try.ntmps28
    go_wp2_with fail
    refine HN.out.mono ?_; rintro e w1 ⟨rfl, hr, hc⟩
    have HB := Lib.hid (And.intro hr hc)
    clear hr hc
    go_wp2
    go_ret
    exact ⟨rfl, HB.out.1, HB.out.2⟩

/-- the string of bytes. -/
def strOf (bs : List Nat) : ByteArray := ⟨(bs.map fun x => UInt8.ofNat x).toArray⟩
def bytesOf (s : ByteArray) : List Nat := s.data.toList.map UInt8.toNat
theorem strOf_len (bs : List Nat) : (strOf bs).size = bs.length := by simp [strOf, ByteArray.size]
theorem bytesOf_strOf (bs : List Nat) (h : ∀ x ∈ bs, x < 256) : bytesOf (strOf bs) = bs := by
  unfold bytesOf strOf
  simp only [List.map_map]
  conv => rhs; rw [← List.map_id bs]
  apply List.map_congr_left
  intro x hx
  have := h x hx
  simp
  omega
theorem strOf_bytesOf (s : ByteArray) : strOf (bytesOf s) = s := by
  unfold bytesOf strOf
  have e : (s.data.toList.map UInt8.toNat).map (fun x => UInt8.ofNat x) = s.data.toList := by
    rw [List.map_map]
    conv => rhs; rw [← List.map_id s.data.toList]
    apply List.map_congr_left
    intro x _
    simp
  rw [e]
theorem bytesOf_len (s : ByteArray) : (bytesOf s).length = s.size := by unfold bytesOf; rw [List.length_map]; rfl
set_option maxRecDepth 100000 in
theorem bytesOf_lt (s : ByteArray) : ∀ x ∈ bytesOf s, x < 256 := by
  intro x hx
  obtain ⟨y, _, rfl⟩ := List.mem_map.1 hx
  exact y.toNat_lt
theorem bs_string {w : World} {A : Option Addr} {n cap : Nat} {bs : List Nat} (h : BsAt w A n cap bs) : (convert 41 9 (.slice A n cap)).run Try.prog w = .ok (.string (strOf bs)) w := by
  obtain ⟨h1, h2, h3, h4, h5, h6⟩ := h
  have e : strOf bs = ⟨((bs.map fun x : Nat => (x : Int)).map fun n => UInt8.ofNat n.toNat).toArray⟩ := by
    unfold strOf
    rw [List.map_map]
    rfl
  rcases Nat.eq_zero_or_pos n with h0 | h0
  · subst h0
    obtain rfl : bs = [] := List.eq_nil_of_length_eq_zero h1
    cases A with
    | none => exact (run_convert_bytes_nil (P := Try.prog) w _ _ Try.underlying41 Try.underlying5 0 cap _ Try.underlying9).trans (by rfl)
    | some a =>
      rw [run_convert_bytes_string w _ _ _ _ _ _ Try.underlying41 Try.underlying5 Try.underlying9, run_bytesToString w a 0 cap [] (by simp [loadCells, loadCellsFrom])]
      rfl
  · obtain ⟨b, off, rfl, hc⟩ := h5 h0
    rw [run_convert_bytes_arg (P := Try.prog) w _ _ Try.underlying41 Try.underlying5 b off n cap (bs.map fun x : Nat => (x : Int)) (by simp [h1]) (fun i hi => by
      rw [hc i hi]
      simp [List.getD, h1, hi]) _ Try.underlying9, e]
    rfl

def rtext (r : List Nat × Bool) : List Nat × (List Nat × Bool) := if (rsmall 64 r).2.1.length < (rsmall 64 r).1 then ([], ((rsmall 64 r).2.1, true)) else ((rsmall 64 r).2.1.take (rsmall 64 r).1, ((rsmall 64 r).2.1.drop (rsmall 64 r).1, (rsmall 64 r).2.2))
set_option maxRecDepth 100000 in
set_option maxHeartbeats 1000000 in
theorem rtext_calls (rb : Nat) (r : List Nat × Bool) (w : World) (h : RdAt w rb r) :
    Calls Try.prog 38 #[.pointer (some ⟨rb, 0, none⟩)] w fun e w' => e = .returned (.string (strOf (rtext r).1)) ∧ RdAt w' rb (rtext r).2 ∧ Chg (fun j => j = rb) w w' := by
  have HN := Lib.hid (rsmall_calls rb 64 r w h (by decide))
  obtain ⟨k, hk⟩ : ∃ v, (rsmall 64 r).1 = v := ⟨_, rfl⟩
  obtain ⟨r2, hr2⟩ : ∃ r2, (rsmall 64 r).2 = r2 := ⟨_, rfl⟩
  have hrt : rtext r = if r2.1.length < k then ([], (r2.1, true)) else (r2.1.take k, (r2.1.drop k, r2.2)) := by unfold rtext; rw [hk, hr2]
  rw [hk, hr2] at HN
  by_cases hlen : r2.1.length < k
  · rw [if_pos hlen] at hrt
    rw [hrt]
    have HL := Lib.hid hlen
    clear hlen hrt hr2 hk h
    go_enter Try.func38, Try.ntmps38
    go_wp2_with fail
    refine HN.out.mono ?_; rintro e w1 ⟨rfl, hr, hc⟩
    obtain ⟨A, n, cap, hb, hs, hA⟩ := hr
    have HA := Lib.hid hA
    clear hA
    have c0 : w1.cell? ⟨rb, 0, none⟩ = some (.slice A n cap) := hb.cell 0
    have c1 : w1.cell? ⟨rb, 1, none⟩ = some (.bool r2.2) := hb.cell 1
    have z1 := hb.free 1
    have t1 : decide (n < k) = true := by have := hs.1; have := HL.out; simp; omega
    have HB := Lib.hid (And.intro hb (And.intro hs hc))
    clear hb hs hc
    go_wp2
    go_ret
    exact ⟨rfl, ⟨A, n, cap, HB.out.1.set 1 _, bs_store HB.out.2.1 HB.out.1 (by simp) ((Chg.refl (fun j => j = rb) w1).setCell _ _ (fun _ => rfl)), HA.out⟩, HB.out.2.2.setCell _ _ (fun _ => rfl)⟩
  · rw [if_neg hlen] at hrt
    rw [hrt]
    have HL := Lib.hid hlen
    clear hlen hrt hr2 hk h
    go_enter Try.func38, Try.ntmps38
    go_wp2_with fail
    refine HN.out.mono ?_; rintro e w1 ⟨rfl, hr, hc⟩
    obtain ⟨A, n, cap, hb, hs, hA⟩ := hr
    have HA := Lib.hid hA
    clear hA
    have c0 : w1.cell? ⟨rb, 0, none⟩ = some (.slice A n cap) := hb.cell 0
    have z0 := hb.free 0
    have hkn : k ≤ n := by have := hs.1; have := HL.out; omega
    have hncap := hs.2.1
    have hcap64 := hs.2.2.1
    have t1 : decide (n < k) = false := by simp; omega
    have htake := bs_string (hs.take hkn)
    have HB := Lib.hid (And.intro hb (And.intro hs hc))
    have HD := Lib.hid (hs.drop hkn)
    clear hb hs hc
    by_cases hcapk : cap = k
    · rw [if_pos hcapk] at HD
      obtain rfl : n = k := by omega
      subst hcapk
      go_wp2
      go_ret
      refine ⟨rfl, ⟨_, _, _, HB.out.1.set 0 _, bs_store (by simpa using HD.out) HB.out.1 (by simp) ((Chg.refl (fun j => j = rb) w1).setCell _ _ (fun _ => rfl)), fun h => HA.out (by omega)⟩, HB.out.2.2.setCell _ _ (fun _ => rfl)⟩
    · rw [if_neg hcapk] at HD
      go_wp2
      go_ret
      refine ⟨rfl, ⟨_, _, _, HB.out.1.set 0 _, bs_store (by simpa using HD.out) HB.out.1 (by simp) ((Chg.refl (fun j => j = rb) w1).setCell _ _ (fun _ => rfl)), fun h => (HA.out (by omega)).map k⟩, HB.out.2.2.setCell _ _ (fun _ => rfl)⟩
end Go.Proofs.Ytgfingdopelinaa
