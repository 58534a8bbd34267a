/- contract of put: numbers are laid behind bytes. -/
import Derived.Test.YtgfingdopelinaaChg
import Derived.Test.YtgfingdopelinaaScM
import Derived.Maps.AppendAt
import Derived.Deep.LoopGhost
namespace Go.Proofs.Ytgfingdopelinaa
open Go.RowKit Go.Deep

/-- bytes as values. -/
def u8s (bs : List Nat) : List Value := bs.map fun x => Value.int .u8 (x : Nat)
theorem u8s_len (bs : List Nat) : (u8s bs).length = bs.length := by simp [u8s]
theorem u8s_app (a b : List Nat) : u8s (a ++ b) = u8s a ++ u8s b := by simp [u8s]
theorem u8s_one (bs : List Nat) : ∀ u ∈ u8s bs, u.oneCell' = true := by
  intro v hv
  simp [u8s] at hv
  obtain ⟨z, _, rfl⟩ := hv
  rfl
theorem info_u8 : (Try.prog.info? 5).map (fun i => (i.zero, i.size, i.bytes)) = some (some (.int .u8 0), 1, 1) := by kernel_rfl

/-- Bytes that the call itself lays: they are bs, at v; of what was there in w0 only v0's own block may have changed. -/
structure BRow (w0 w : World) (base : Nat) (v0 v : Value) (bs : List Nat) : Prop where
  own : w.ownsRow base 5 1 v bs.length (u8s bs)
  chg : Chg (fun j => v0.ownBlock = some j) w0 w
  blk : v.ownBlock = v0.ownBlock ∨ ∃ j, v.ownBlock = some j ∧ w0.heap.size ≤ j
theorem BRow.alloc {w0 w : World} {base : Nat} {v0 v : Value} {bs : List Nat} (h : BRow w0 w base v0 v bs) (o : Obj) : BRow w0 (w.alloc o) base v0 v bs := ⟨h.own.alloc o, h.chg.alloc o, h.blk⟩
theorem BRow.grow {w0 w w' : World} {base : Nat} {v0 v v' : Value} {bs cs : List Nat} (h : BRow w0 w base v0 v bs) (hown : w'.ownsRow base 5 1 v' (bs.length + cs.length) (u8s bs ++ u8s cs))
    (hg : w.grownBy w' v.ownBlock) (hb : v'.ownBlock = v.ownBlock ∨ ∃ j, v'.ownBlock = some j ∧ w.heap.size ≤ j) : BRow w0 w' base v0 v' (bs ++ cs) := by
  have hcw : Chg (fun j => v.ownBlock = some j) w w' := ⟨hg.os, hg.tape, hg.output, hg.size, fun k hk hn => hg.block k hk (fun e => hn e.symm)⟩
  refine ⟨by rw [List.length_append, u8s_app]; exact hown, h.chg.trans hcw (fun j hj e => ?_), ?_⟩
  · rcases h.blk with hv | ⟨k, hv, hk⟩
    · exact hv.symm.trans e
    · rw [hv] at e; injection e with e; omega
  · rcases hb with e | ⟨j, e, hj⟩
    · rw [e]; exact h.blk
    · exact .inr ⟨j, e, Nat.le_trans h.chg.size hj⟩
theorem brow_start {w : World} {base : Nat} {v : Value} {bs : List Nat} (h : w.ownsRow base 5 1 v bs.length (u8s bs)) : BRow w w base v v bs := ⟨h, Chg.refl _ _, .inl rfl⟩

/-- numbers as values. -/
def putL (ls : List Nat) : List Nat := ls.flatMap putN
theorem putL_len (ls : List Nat) (h : ∀ x ∈ ls, x < 18446744073709551616) : (putL ls).length ≤ 10 * ls.length := by
  induction ls with
  | nil => simp [putL]
  | cons x t ih =>
    have h1 := putN_len10 x (h x (List.mem_cons_self ..))
    have h2 := ih (fun y hy => h y (List.mem_cons_of_mem _ hy))
    unfold putL at *
    simp only [List.flatMap_cons, List.length_append, List.length_cons]
    omega
theorem putL_take (ls : List Nat) (k : Nat) (hk : k < ls.length) : putL (ls.take (k + 1)) = putL (ls.take k) ++ putN ls[k] := by
  unfold putL
  rw [List.take_succ_eq_append_getElem hk, List.flatMap_append]
  simp

set_option maxRecDepth 100000 in
theorem or_u8 (y : Nat) (hy : y < 256) : bits .or .u8 (y : Int) 128 = ((y % 128 + 128 : Nat) : Int) := by
  have key : ∀ m : Fin 256, (BitVec.ofNat 8 m.1 ||| 128#8).toNat = m.1 % 128 + 128 := by decide
  show IntKind.u8.wrap ((BitVec.ofInt 8 (y : Int) ||| BitVec.ofInt 8 128).toNat : Nat) = _
  have h1 : BitVec.ofInt 8 (y : Int) = BitVec.ofNat 8 y := by simp
  have h2 : BitVec.ofInt 8 128 = 128#8 := by decide
  have hk := key ⟨y, hy⟩
  dsimp only at hk
  rw [h1, h2, hk, IntKind.wrap_u8]
  omega
theorem or_byte (y : Nat) : bits .or .u8 ((y : Int) % 256) 128 = ((y % 128 + 128 : Nat) : Int) := by
  have e : ((y : Int) % 256) = ((y % 256 : Nat) : Int) := by omega
  rw [e, or_u8 _ (by omega)]
  congr 1
  omega
theorem one_byte {w : World} {x : Nat} {z : Int} {t : TypeId} (h : z = (x : Int)) : ∀ j u, (u8s [x])[j]? = some u → (w.alloc (.cells #[.int .u8 z] t)).cell? ((⟨w.heap.size, 0, none⟩ : Addr).add j) = some u := by
  intro j u hu
  match j with
  | 0 =>
    simp [u8s] at hu
    subst hu
    rw [add_none, h]
    exact (Blk.new w t [.int .u8 (x : Int)]).cell 0
  | j + 1 => simp [u8s] at hu

set_option maxRecDepth 100000 in
set_option maxHeartbeats 1000000 in
theorem put_calls (base : Nat) (v : Value) (bs ls : List Nat) (g off cap : Nat) (w : World) (hown : w.ownsRow base 5 1 v bs.length (u8s bs))
    (hc : ∀ i, i < ls.length → w.cell? ⟨g, off + i, none⟩ = some (.int .u64 (ls.getD i 0 : Nat))) (hg : v.ownBlock ≠ some g) (hbase : base ≤ w.heap.size)
    (hls : ∀ x ∈ ls, x < 18446744073709551616) (hlen : bs.length + 10 * ls.length ≤ 1099511627776) :
    Calls Try.prog 26 #[v, .slice (some ⟨g, off, none⟩) ls.length cap] w fun e w' => ∃ v', e = .returned v' ∧ BRow w w' base v v' (bs ++ putL ls) := by
  obtain ⟨i0, hi, hz⟩ := Option.map_eq_some_iff.1 info_u8
  simp only [Prod.mk.injEq] at hz
  obtain ⟨hz0, hz1, hz2⟩ := hz
  have HI := Lib.hid hi; have HZ0 := Lib.hid hz0; have HZ1 := Lib.hid hz1; have HZ2 := Lib.hid hz2
  have HC := Lib.hid hc
  have HLS := Lib.hid hls
  have HG := Lib.hid hg
  have HST : Hid (BRow w w base v v (bs ++ putL (ls.take 0))) := Lib.hid (by
    have : bs ++ putL (ls.take 0) = bs := by simp [putL]
    rw [this]; exact brow_start hown)
  obtain ⟨n, hn⟩ : ∃ n, ls.length = n := ⟨_, rfl⟩
  have HN := Lib.hid hn
  have hn2 : n ≤ 1099511627776 := by omega
  have HLEN := Lib.hid hlen
  rw [hn]
  clear hi hz0 hz1 hz2 hc hls hg hown hn hlen
  go_enter Try.func26, Try.ntmps26
  go_wp2_with fail
  go_loopg [0, 9] n (fun g' v1 i wr => ∃ k : Nat, k ≤ n ∧ g' = n - k ∧ i = .int .i64 k ∧ Hid (BRow w wr base v v1 (bs ++ putL (ls.take k))))
  case atStart => exact ⟨0, by omega, rfl, rfl, HST⟩
  case round =>
    clear HST
    obtain ⟨k, hk, rfl, rfl, HB⟩ := hrel
    by_cases hlt : k < n
    · have hkl : k < ls.length := by rw [HN.out]; exact hlt
      have c0 : wr.cell? ⟨g, off + k, none⟩ = some (.int .u64 (ls.getD k 0 : Nat)) := HB.out.chg.cell (HC.out k hkl) (fun e => HG.out e)
      obtain ⟨x, hx⟩ : ∃ x, ls.getD k 0 = x := ⟨_, rfl⟩
      rw [hx] at c0
      have hx64 : x < 18446744073709551616 := by
        rw [← hx, List.getD, List.getElem?_eq_getElem hkl]
        exact HLS.out _ (List.getElem_mem hkl)
      have HX := Lib.hid hx
      have HX64 := Lib.hid hx64
      have hbl : (bs ++ putL (ls.take k)).length + 10 ≤ 1099511627776 := by
        have h1 := putL_len (ls.take k) (fun z hz => HLS.out z (List.mem_of_mem_take hz))
        have h2 := HLEN.out
        rw [List.length_take] at h1
        rw [List.length_append]
        omega
      have HBL := Lib.hid hbl
      have HTK : Hid (putL (ls.take (k + 1)) = putL (ls.take k) ++ putN x) := Lib.hid (by
        rw [putL_take ls k hkl]
        congr 2
        rw [← hx, List.getD, List.getElem?_eq_getElem hkl]
        rfl)
      clear hx hkl hx64 hbl
      go_wp2_with fail
      obtain ⟨wo, rfl⟩ : ∃ wo : World, wo = wr := ⟨_, rfl⟩
      go_loopg [0, 6] x (fun g' v2 y' wr => ∃ (y : Nat) (cs : List Nat), y = g' ∧ y < 18446744073709551616 ∧ y' = .int .u64 y ∧ Hid (bs ++ putL (ls.take k) ++ putN x = cs ++ putN y) ∧ Hid (BRow w wr base v v2 cs))
      case atStart => exact ⟨x, _, rfl, HX64.out, rfl, Lib.hid rfl, HB⟩
      case round =>
        clear HB c0
        obtain ⟨y, cs, rfl, hy, rfl, HE, HB⟩ := hrel
        have hcl : cs.length + 1 ≤ 1099511627776 + 10 := by
          have h1 := congrArg List.length HE.out
          have h2 := HBL.out
          have h3 := putN_len10 x HX64.out
          have h4 := putN_pos y
          simp only [List.length_append] at h1 h2
          omega
        have HCL := Lib.hid hcl
        have HY := Lib.hid hy
        clear hcl hy
        by_cases hy128 : y < 128
        · have t1 : decide ((128 : Int) ≤ (y : Int)) = false := by simp; omega
          have HY128 := Lib.hid hy128
          clear hy128
          go_wp2_with (at_builtin; (refine wpList_append_own_at _ rfl (.tmp 23) (.tmp 26) 41 rfl base 5 i0 (.int .u8 0) 1 1 Try.underlying41 HI.out HZ0.out HZ1.out HZ2.out rfl (by decide) _ cs.length (u8s cs) rfl (HB.out.own.alloc _) ⟨wr.heap.size, 0, none⟩ 1 1 (u8s [y]) rfl rfl ?c1 (u8s_one _) ?c3 ?c4 ?c5 ?_))
          case c1 => exact one_byte (by have := HY128.out; omega)
          case c3 => have := HCL.out; simp [maxLen]; omega
          case c4 => have := HCL.out; omega
          case c5 => have := HB.out.chg.size; simp; omega
          intro v' w1 hown' hg' _ hb'
          have HB' := Lib.hid ((HB.out.alloc _).grow hown' hg' (hb'.imp id (fun h => ⟨_, h, by simp⟩)))
          clear hown' hg' hb'
          clear HB
          have HB2 : Hid (BRow w w1 base v v' (bs ++ putL (ls.take (k + 1)))) := Lib.hid (by
            rw [HTK.out, ← List.append_assoc, HE.out, putN_small HY128.out]
            exact HB'.out)
          clear HB'
          go_wp2
          go_roundg (n - (k + 1))
          case measure => omega
          case rel => exact ⟨k + 1, by omega, rfl, by go_num, HB2⟩
        · have t1 : decide ((128 : Int) ≤ (y : Int)) = true := by simp; omega
          have HY128 := Lib.hid hy128
          clear hy128
          go_wp2_with (at_builtin; (refine wpList_append_own_at _ rfl (.tmp 17) (.tmp 21) 41 rfl base 5 i0 (.int .u8 0) 1 1 Try.underlying41 HI.out HZ0.out HZ1.out HZ2.out rfl (by decide) _ cs.length (u8s cs) rfl (HB.out.own.alloc _) ⟨wr.heap.size, 0, none⟩ 1 1 (u8s [y % 128 + 128]) rfl rfl ?c1 (u8s_one _) ?c3 ?c4 ?c5 ?_))
          case c1 => exact one_byte (or_byte y)
          case c3 => have := HCL.out; simp [maxLen]; omega
          case c4 => have := HCL.out; omega
          case c5 => have := HB.out.chg.size; simp; omega
          intro v' w1 hown' hg' _ hb'
          have HB' := Lib.hid ((HB.out.alloc _).grow hown' hg' (hb'.imp id (fun h => ⟨_, h, by simp⟩)))
          clear hown' hg' hb'
          clear HB
          go_wp2
          go_roundg (y / 128)
          case measure => have := HY128.out; omega
          case rel => exact ⟨y / 128, cs ++ [y % 128 + 128], rfl, by have := HY.out; omega, by go_num, Lib.hid (by rw [HE.out, List.append_assoc, putN_big HY128.out]; rfl), HB'⟩
    · obtain rfl : k = n := by omega
      clear hlt
      go_wp2
      go_ret
      exact ⟨_, rfl, by
        have h := HB.out
        rw [List.take_of_length_le (by rw [HN.out]; exact Nat.le_refl _)] at h
        exact h⟩
end Go.Proofs.Ytgfingdopelinaa
