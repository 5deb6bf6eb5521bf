
/- Choices drawn from bytes: what a draw leaves, and what it returns. No condition. -/
import Derived.Test.YtgkjakoagdkpcaaGreatDoorLebP
import Derived.Test.YtgkjakoagdkpcaaGreatDoorMem
import Derived.Test.YtgkjakoagdkpcaaGreatDoorBlk
import Derived.Test.YtgkjakoagdkpcaaGreatDoorChecked
import Derived.Deep.QuietTactic
import Derived.BigQuiet
import Derived.Deep.Light
import Derived.Deep.RegionHeld3
import Derived.Deep.Cut
import Derived.Deep.CutRange
set_option linter.unusedSimpArgs false
set_option linter.unusedVariables false
set_option maxRecDepth 100000
namespace Go.Proofs.YtgkjakoagdkpcaaGreatDoor
open Go.RowKit

/-- but for block g, what was there is as it was -/
structure Dw (g : Nat) (w w' : World) : Prop where
  os : w'.os = w.os
  tape : w'.tape = w.tape
  output : w'.output = w.output
  size : w.heap.size ≤ w'.heap.size
  block : ∀ k, k ≠ g → k < w.heap.size → w'.heap[k]? = w.heap[k]?
section
variable {g : Nat} {w w1 w2 : World}
theorem Dw.refl (g : Nat) (w : World) : Dw g w w := ⟨rfl, rfl, rfl, Nat.le_refl _, fun _ _ _ => rfl⟩
theorem Dw.trans (h : Dw g w w1) (k : Dw g w1 w2) : Dw g w w2 := ⟨k.os.trans h.os, k.tape.trans h.tape, k.output.trans h.output, Nat.le_trans h.size k.size, fun i hi hs => (k.block i hi (Nat.lt_of_lt_of_le hs h.size)).trans (h.block i hi hs)⟩
theorem Dw.of (h : Below w.heap.size w w1) : Dw g w w1 := ⟨h.os, h.tape, h.output, h.size, fun k _ hk => h.block k hk⟩
theorem Dw.then (h : Dw g w w1) (k : Below w1.heap.size w1 w2) : Dw g w w2 := h.trans (.of k)
theorem Dw.set (h : Dw g w w1) (i : Nat) (u : Value) : Dw g w (w1.setCell ⟨g, i, none⟩ u) := h.trans ⟨rfl, rfl, rfl, by simp [World.setCell], fun k hk _ => Below.heap_setCell _ _ _ _ hk⟩
theorem Dw.drewN (h : Dw g w w1) (q : Nat) : Dw g w (w1.drewN q) := h.then (below_drewN (Below.refl _ _) q)
theorem Dw.alloc (h : Dw g w w1) (o : Obj) : Dw g w (w1.alloc o) := h.then ((Below.refl _ _).alloc (Nat.le_refl _) o)
theorem Dw.below {B : Nat} (h : Dw g w w1) (hB : B ≤ g) (hs : B ≤ w.heap.size) : Below B w w1 := ⟨h.os, h.tape, h.output, h.size, fun k hk => h.block k (by omega) (by omega)⟩
theorem Dw.bk {k : Nat} {t : TypeId} {cs : Array Value} (h : Dw g w w1) (hb : Bk w k t cs) (hk : k ≠ g) : Bk w1 k t cs := (h.block k hk hb.lt).trans hb
theorem Dw.own {base n : Nat} {e : TypeId} {size : Nat} {v : Value} {xs : List Value} (h : Dw g w w1) (ho : w.ownsRow base e size v n xs) (hg : g < base) : w1.ownsRow base e size v n xs := by
  refine ⟨ho.1, ?_⟩
  rcases ho.2 with hn | ⟨k, cap, cur, hv, hk, hh, r⟩
  · exact .inl hn
  · exact .inr ⟨k, cap, cur, hv, hk, (h.block k (by omega) (Array.getElem?_eq_some_iff.1 hh).1).trans hh, r⟩
theorem Dw.rd {B n : Nat} {v : Value} {cs : List Value} (h : Dw g w w1) (hr : Rd w B v n cs) (hB : B ≤ g) (hs : B ≤ w.heap.size) : Rd w1 B v n cs := hr.keep fun p hp => World.cell?_of_block (h.block _ (by omega) (by omega))
end
/-- the choices' state lies in block g -/
structure Cur (g : Nat) (A : Option Addr) (c : Nat) (zs : List Int) (K : Nat) (w : World) : Prop where
  blk : ∃ (at_ : Nat) (seed : Int), at_ ≤ K ∧ (0 ≤ seed ∧ seed ≤ 18446744073709551615) ∧ Bk w g 64 #[.slice A zs.length c, .int .i64 at_, .int .u64 seed]
  rd : Rd w g (.slice A zs.length c) zs.length (icells .u8 zs)
  by_ : ∀ z ∈ zs, 0 ≤ z ∧ z ≤ 255
section
variable {g : Nat} {A : Option Addr} {c : Nat} {zs : List Int} {K : Nat} {w w1 : World}
theorem Cur.lt (h : Cur g A c zs K w) : g < w.heap.size := by obtain ⟨_, _, _, _, hb⟩ := h.blk; exact hb.lt
theorem Cur.below (h : Cur g A c zs K w) (hb : Below w.heap.size w w1) : Cur g A c zs K w1 := by
  have hl := h.lt
  obtain ⟨⟨a, s, h1, h2, h3⟩, h4, h5⟩ := h
  exact ⟨⟨a, s, h1, h2, h3.below hb⟩, h4.below (hb.mono (by omega)), h5⟩
theorem Cur.more (h : Cur g A c zs K w) {K' : Nat} (hK : K ≤ K') : Cur g A c zs K' w := by
  obtain ⟨⟨a, s, h1, h2, h3⟩, h4, h5⟩ := h
  exact ⟨⟨a, s, Nat.le_trans h1 hK, h2, h3⟩, h4, h5⟩
end
theorem u64_rng (x : Int) : 0 ≤ IntKind.u64.wrap x ∧ IntKind.u64.wrap x ≤ 18446744073709551615 := by rw [IntKind.wrap_u64]; omega
theorem u64_and_255 (n : Int) : 0 ≤ bits .and .u64 n 255 ∧ bits .and .u64 n 255 ≤ 255 := by
  have : bits .and .u64 n 255 = n % 256 := by
    show IntKind.u64.wrap ((BitVec.ofInt 64 n &&& BitVec.ofInt 64 255).toNat : Int) = _
    rw [BitVec.toNat_and, show (BitVec.ofInt 64 255).toNat = 2 ^ 8 - 1 from rfl, Nat.and_two_pow_sub_one_eq_mod, BitVec.toNat_ofInt, IntKind.wrap_u64]
    omega
  omega
theorem cur_step {g : Nat} {A : Option Addr} {c : Nat} {zs : List Int} {K a : Nat} {seed s : Int} {w : World} (hb : Bk w g 64 #[.slice A zs.length c, .int .i64 a, .int .u64 seed]) (hr : Rd w g (.slice A zs.length c) zs.length (icells .u8 zs)) (hby : ∀ z ∈ zs, 0 ≤ z ∧ z ≤ 255) (ha : a ≤ K) (hs : 0 ≤ s ∧ s ≤ 18446744073709551615) (q q2 : Nat) :
    Cur g A c zs (K + 1) ((((w.drewN q).setCell ⟨g, 1, none⟩ (.int .i64 ((a : Int) + 1))).setCell ⟨g, 2, none⟩ (.int .u64 s)).drewN q2) ∧ Dw g w ((((w.drewN q).setCell ⟨g, 1, none⟩ (.int .i64 ((a : Int) + 1))).setCell ⟨g, 2, none⟩ (.int .u64 s)).drewN q2) := by
  have hd : Dw g w ((((w.drewN q).setCell ⟨g, 1, none⟩ (.int .i64 ((a : Int) + 1))).setCell ⟨g, 2, none⟩ (.int .u64 s)).drewN q2) := ((((Dw.refl g w).drewN q).set 1 _).set 2 _).drewN q2
  refine ⟨⟨⟨a + 1, s, by omega, hs, ?_⟩, hd.rd hr (Nat.le_refl _) (Nat.le_of_lt hb.lt), hby⟩, hd⟩
  exact (((hb.drewN q).set 1 (.int .i64 ((a : Int) + 1))).set 2 (.int .u64 s)).drewN q2
theorem low_byte (x : Int) : 0 ≤ wrap64 (bits .and .u64 x 255) ∧ wrap64 (bits .and .u64 x 255) ≤ 255 := by
  have := u64_and_255 x
  unfold wrap64; omega
def NextP (g : Nat) (A : Option Addr) (c : Nat) (zs : List Int) (K : Nat) (w : World) (e : Ending) (w' : World) : Prop := ∃ n : Int, e = .returned (.int .i64 n) ∧ (0 ≤ n ∧ n ≤ 255) ∧ Cur g A c zs (K + 1) w' ∧ Dw g w w'
set_option maxHeartbeats 1600000 in
theorem cur_next (g : Nat) (A : Option Addr) (c : Nat) (zs : List Int) (K : Nat) (w : World) (hc : Cur g A c zs K w) (hK : K ≤ 4000000000000000000) :
    Calls Tryz.prog 73 #[.pointer (some ⟨g, 0, none⟩)] w (NextP g A c zs K w) := by
  obtain ⟨⟨a, seed, ha, ⟨hs1, hs2⟩, hb⟩, hr, hby⟩ := hc
  have hz : zs.length ≤ 9223372036854775807 := by obtain ⟨_, _, e, h1, h2, _⟩ := id hr; cases e; unfold maxLen at h2; omega
  have c0 := hb.cell 0; have c1 := hb.cell 1; have c2 := hb.cell 2; have f1 := hb.frozen 1; have f2 := hb.frozen 2; have cl := hb.lt
  have Hb := hide hb; have Hr := hide hr; have Hby := Lib.hid hby
  have ha2 : a ≤ 4000000000000000000 := by omega
  have ha3 : (a : Int) ≤ 4000000000000000000 := by omega
  clear hb hr hby
  by_cases hlt : a < zs.length
  · obtain ⟨b, o, rfl, hbB, hsrc⟩ := Hr.out.at_ (j := a) (by rw [icells_length]; exact hlt)
    rw [icells_get _ _ hlt] at hsrc
    have hzb := Hby.out _ (List.getElem_mem hlt)
    generalize zs[a] = z at *
    obtain ⟨hz1, hz2⟩ := hzb
    have hltI : (a : Int) < (zs.length : Int) := by omega
    have hle : (a : Int) + 1 ≤ (zs.length : Int) := by omega
    have hne : ¬ (b = g) := by omega
    have hne2 : ¬ (g = b) := by omega
    have hbw : b < w.heap.size := by omega
    have HF := hide (fun s hs q q2 => @cur_step g (some ⟨b, o, none⟩) c zs K a seed s w Hb.out Hr.out Hby.out ha hs q q2)
    go_enter Tryz.func73, Tryz.ntmps73
    go_wp2
    go_quiet (fail)
    go_wp2
    go_quiet (fail)
    go_wp2
    go_quiet (fail)
    go_wp2
    go_ret
    exact ⟨_, rfl, ⟨hz1, hz2⟩, HF.out _ (u64_rng _) _ _⟩
  · have hltI : ¬ (a : Int) < (zs.length : Int) := by omega
    have hle : ¬ (a : Int) + 1 ≤ (zs.length : Int) := by omega
    have HF := hide (fun s hs q q2 => @cur_step g A c zs K a seed s w Hb.out Hr.out Hby.out ha hs q q2)
    go_enter Tryz.func73, Tryz.ntmps73
    go_wp2
    go_quiet (fail)
    go_wp2
    go_quiet (fail)
    go_wp2
    go_ret
    exact ⟨_, rfl, low_byte _, HF.out _ (u64_rng _) _ _⟩
/-- a draw's answer below n -/
def PickP (g : Nat) (A : Option Addr) (c : Nat) (zs : List Int) (K : Nat) (w : World) (n : Int) (e : Ending) (w' : World) : Prop := ∃ m : Int, e = .returned (.int .i64 m) ∧ (0 ≤ m ∧ (1 ≤ n → m < n)) ∧ Cur g A c zs (K + 2) w' ∧ Dw g w w'
set_option maxHeartbeats 1600000 in
theorem cur_pick (g : Nat) (A : Option Addr) (c : Nat) (zs : List Int) (K : Nat) (w : World) (n : Int) (hc : Cur g A c zs K w) (hK : K ≤ 3000000000000000000) (hn : n ≤ 1000000000000) :
    Calls Tryz.prog 44 #[.pointer (some ⟨g, 0, none⟩), .int .i64 n] w (PickP g A c zs K w n) := by
  by_cases h1 : n ≤ 1
  · have Hc := hide hc; clear hc
    go_enter Tryz.func44, Tryz.ntmps44
    go_wp2
    go_ret
    exact ⟨0, rfl, ⟨by omega, fun h => by omega⟩, Hc.out.more (by omega), Dw.refl _ _⟩
  have hx := cur_next g A c zs K w hc (by omega)
  have hy := fun w1 (h : Cur g A c zs (K + 1) w1) => cur_next g A c zs (K + 1) w1 h (by omega)
  have HX := Lib.hid hx; have HY := Lib.hid hy
  have h1' : (2 : Int) ≤ n := by omega
  clear hx hy hc
  by_cases h2 : n ≤ 200
  · go_enter Tryz.func44, Tryz.ntmps44
    go_wp2_with (go_at_call 73; refine (HX.out).mono ?_; rintro e w1 ⟨x, rfl, ⟨hx1, hx2⟩, hc1, hd1⟩; have Hc1 := hide hc1; have Hd1 := hide hd1; clear hc1 hd1)
    go_ret
    exact ⟨_, rfl, ⟨Int.emod_nonneg _ (by omega), fun _ => Int.emod_lt_of_pos _ (by omega)⟩, Hc1.out.more (by omega), Hd1.out⟩
  · have h2' : (200 : Int) < n := by omega
    go_enter Tryz.func44, Tryz.ntmps44
    go_upto_region 5 with (go_at_call 73; refine (HX.out).mono ?_; rintro e w1 ⟨x, rfl, ⟨hx1, hx2⟩, hc1, hd1⟩; have Hc1 := hide hc1; have Hd1 := hide hd1; clear hc1 hd1)
    go_wp2_with (go_at_call 73; refine (HY.out _ Hc1.out).mono ?_; rintro e w2 ⟨y, rfl, ⟨hy1, hy2⟩, hc2, hd2⟩; have Hc2 := hide hc2; have Hd2 := hide hd2; clear hc2 hd2)
    go_ret
    exact ⟨_, rfl, ⟨Int.emod_nonneg _ (by omega), fun _ => Int.emod_lt_of_pos _ (by omega)⟩, Hc2.out, Hd1.out.trans Hd2.out⟩
def OneP (g : Nat) (A : Option Addr) (c : Nat) (zs : List Int) (K : Nat) (w : World) (e : Ending) (w' : World) : Prop := ∃ b : Bool, e = .returned (.bool b) ∧ Cur g A c zs (K + 2) w' ∧ Dw g w w'
set_option maxHeartbeats 1600000 in
theorem cur_one (g : Nat) (A : Option Addr) (c : Nat) (zs : List Int) (K : Nat) (w : World) (n : Int) (hc : Cur g A c zs K w) (hK : K ≤ 3000000000000000000) (hn : n ≤ 1000000000000) :
    Calls Tryz.prog 68 #[.pointer (some ⟨g, 0, none⟩), .int .i64 n] w (OneP g A c zs K w) := by
  have HX := hide (cur_pick g A c zs K w n hc hK hn)
  clear hc
  go_enter Tryz.func68, Tryz.ntmps68
  go_wp2_with (go_at_call 44; refine (HX.out).mono ?_; rintro e w1 ⟨x, rfl, hx, hc1, hd1⟩; have Hc1 := hide hc1; have Hd1 := hide hd1; clear hc1 hd1 hx)
  go_ret
  exact ⟨_, rfl, Hc1.out, Hd1.out⟩
theorem pick_nat {x : Int} {n : Nat} (h : 0 ≤ x ∧ (1 ≤ (n : Int) → x < n)) (h0 : 0 < n) : ∃ k : Nat, x = k ∧ k < n := by
  have := h.2 (by omega)
  exact ⟨x.toNat, by omega, by omega⟩
theorem bk_str {w : World} {q : Nat} {t : TypeId} {ss : List ByteArray} (hb : Bk w q t (ss.map Value.string).toArray) {k : Nat} (hk : k < ss.length) : w.cell? ⟨q, k, none⟩ = some (.string ss[k]) := (hb.cell k).trans (by simp [hk])
theorem bk_ints {w : World} {q : Nat} {t : TypeId} {kd : IntKind} {ns : List Int} (hb : Bk w q t (icells kd ns).toArray) {k : Nat} (hk : k < ns.length) : w.cell? ⟨q, k, none⟩ = some (.int kd ns[k]) := (hb.cell k).trans (by simp [icells, hk])
def AmP (g : Nat) (A : Option Addr) (c : Nat) (zs : List Int) (K : Nat) (w : World) (ns : List Int) (e : Ending) (w' : World) : Prop := ∃ n : Int, e = .returned (.int .i64 n) ∧ n ∈ ns ∧ Cur g A c zs (K + 2) w' ∧ Dw g w w'
set_option maxHeartbeats 1600000 in
theorem cur_among (g : Nat) (A : Option Addr) (c : Nat) (zs : List Int) (K : Nat) (w : World) (q : Nat) (t : TypeId) (ns : List Int) (hc : Cur g A c zs K w) (hK : K ≤ 3000000000000000000) (hb : Bk w q t (icells .i64 ns).toArray) (hq : q ≠ g) (h0 : 0 < ns.length) (hl : ns.length ≤ 1000000) :
    Calls Tryz.prog 38 #[.pointer (some ⟨g, 0, none⟩), .slice (some ⟨q, 0, none⟩) ns.length ns.length] w (AmP g A c zs K w ns) := by
  have HX := hide (cur_pick g A c zs K w ns.length hc hK (by omega))
  have Hb := hide hb
  clear hc hb
  go_enter Tryz.func38, Tryz.ntmps38
  go_wp2_with (go_at_call 44; refine (HX.out).mono ?_; rintro e w1 ⟨x, rfl, hx, hc1, hd1⟩; obtain ⟨k, rfl, hk⟩ := pick_nat hx h0; have hkI : (k : Int) < (ns.length : Int) := Int.ofNat_lt.2 hk; have hkI0 : (0 : Int) ≤ (k : Int) := Int.natCast_nonneg k; have hb1 := hd1.bk Hb.out hq; have hcell := bk_ints hb1 hk; have hql := hb1.lt; have Hc1 := hide hc1; have Hd1 := hide hd1; clear hc1 hd1 hb1)
  go_ret
  exact ⟨_, rfl, List.getElem_mem hk, Hc1.out, Hd1.out⟩
end Go.Proofs.YtgkjakoagdkpcaaGreatDoor
set_option linter.unusedSimpArgs false
set_option linter.unusedVariables false
set_option maxRecDepth 100000
namespace Go.Proofs.YtgkjakoagdkpcaaGreatDoor
open Go.RowKit

def U64P (g : Nat) (A : Option Addr) (c : Nat) (zs : List Int) (K : Nat) (w : World) (e : Ending) (w' : World) : Prop := ∃ n : Int, e = .returned (.int .u64 n) ∧ (0 ≤ n ∧ n ≤ 18446744073709551615) ∧ Cur g A c zs (K + 16) w' ∧ Dw g w w'
def tabU : List Int := [0, 1, 127, 128, 16383, 16384, 9223372036854775807, 9223372036854775808, 18446744073709551615]
theorem tabU_rng : ∀ z ∈ tabU, 0 ≤ z ∧ z ≤ 18446744073709551615 := by decide
theorem pick9 {x : Int} (h : 0 ≤ x ∧ (1 ≤ (9 : Int) → x < 9)) : ∃ k : Nat, x = k ∧ k < tabU.length := by
  have := h.2 (by decide)
  exact ⟨x.toNat, by omega, by show x.toNat < 9; omega⟩
theorem tab_new (w : World) : Bk (w.alloc (.cells (icells .u64 tabU).toArray 62)) w.heap.size 62 (icells .u64 tabU).toArray := Bk.new w _ _
def SintP (g : Nat) (A : Option Addr) (c : Nat) (zs : List Int) (K : Nat) (w : World) (e : Ending) (w' : World) : Prop := ∃ n : Int, e = .returned (.int .i64 n) ∧ (-9223372036854775808 ≤ n ∧ n ≤ 9223372036854775807) ∧ Cur g A c zs (K + 16) w' ∧ Dw g w w'
def tabS : List Int := [0, 1, -1, 63, 64, -64, -65, 127, 128, 8191, 8192, -8192, -8193, 4611686018427387903, 4611686018427387904, -4611686018427387904, 9223372036854775807, -9223372036854775808]
theorem tabS_rng : ∀ z ∈ tabS, -9223372036854775808 ≤ z ∧ z ≤ 9223372036854775807 := by decide
/-- the choices' state at its start -/
theorem cur_start {w : World} {v : Value} {zs : List Int} (hr : Rd w w.heap.size v zs.length (icells .u8 zs)) (hz : ∀ z ∈ zs, 0 ≤ z ∧ z ≤ 255) : ∃ A c, v = .slice A zs.length c ∧ Cur w.heap.size A c zs 0 (w.alloc (.cells #[.slice A zs.length c, .int .i64 0, .int .u64 0] 64)) := by
  obtain ⟨A, c, rfl, h1, h2, h3⟩ := id hr
  exact ⟨A, c, rfl, ⟨0, 0, Nat.le_refl _, by omega, Bk.new _ _ _⟩, hr.below ((Below.refl _ _).alloc (Nat.le_refl _) _), hz⟩
theorem dw_below {w w1 : World} {o : Obj} (h : Dw w.heap.size (w.alloc o) w1) : Below w.heap.size w w1 := ((Below.refl _ _).alloc (Nat.le_refl _) o).trans (h.below (Nat.le_refl _) (by simp))
end Go.Proofs.YtgkjakoagdkpcaaGreatDoor
