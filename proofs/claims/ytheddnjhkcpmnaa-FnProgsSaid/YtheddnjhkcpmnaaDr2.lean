
/- Numbers and texts drawn for LEB128: what the Go text returns. No condition. -/
import Derived.Test.YtheddnjhkcpmnaaDr
import Derived.Test.YtheddnjhkcpmnaaLeb
set_option linter.unusedSimpArgs false
set_option linter.unusedVariables false
set_option maxRecDepth 100000
namespace Go.Proofs.Ytheddnjhkcpmnaa
open Go.RowKit

def U64P (g : Nat) (A : Option Addr) (c : Nat) (zs : List Int) (K : Nat) (w : World) (e : Ending) (w' : World) : Prop := ∃ n : Int, e = .returned (.int .u64 n) ∧ (0 ≤ n ∧ n ≤ 18446744073709551615) ∧ Cur g A c zs (K + 16) w' ∧ Dw g w w'
def tabU : List Int := [0, 1, 127, 128, 16383, 16384, 9223372036854775807, 9223372036854775808, 18446744073709551615]
theorem tabU_rng : ∀ z ∈ tabU, 0 ≤ z ∧ z ≤ 18446744073709551615 := by decide
theorem pick9 {x : Int} (h : 0 ≤ x ∧ (1 ≤ (9 : Int) → x < 9)) : ∃ k : Nat, x = k ∧ k < tabU.length := by
  have := h.2 (by decide)
  exact ⟨x.toNat, by omega, by show x.toNat < 9; omega⟩
theorem tab_new (w : World) : Bk (w.alloc (.cells (icells .u64 tabU).toArray 24)) w.heap.size 24 (icells .u64 tabU).toArray := Bk.new w _ _
set_option maxHeartbeats 3200000 in
theorem cur_u64 (g : Nat) (A : Option Addr) (c : Nat) (zs : List Int) (K : Nat) (w : World) (hc : Cur g A c zs K w) (hK : K ≤ 2000000000000000000) :
    Calls Try.prog 61 #[.pointer (some ⟨g, 0, none⟩)] w (U64P g A c zs K w) := by
  have hx := cur_next g A c zs K w hc (by omega)
  have hy := fun w1 (h : Cur g A c zs (K + 1) w1) => cur_pick g A c zs (K + 1) w1 8 h (by omega) (by omega)
  have hn := fun K' (hK' : K' ≤ K + 10) w1 (h : Cur g A c zs K' w1) => cur_next g A c zs K' w1 h (by omega)
  have ho := fun w1 (h : Cur g A c zs (K + 10) w1) => cur_one g A c zs (K + 10) w1 4 h (by omega) (by omega)
  have hp := fun w1 (h : Cur g A c zs (K + 12) w1) => cur_pick g A c zs (K + 12) w1 9 h (by omega) (by omega)
  have HX := Lib.hid hx; have HY := Lib.hid hy; have HN := Lib.hid hn; have HO := Lib.hid ho; have HP := Lib.hid hp
  have hgl := hc.lt
  clear hx hy hn ho hp hc
  go_enter Try.func61, Try.ntmps61
  go_wp2_with (first
    | (go_at_call 109; refine (HX.out).mono ?_; rintro e w1 ⟨x, rfl, ⟨hx1, hx2⟩, hc1, hd1⟩; have Hc1 := hide hc1; have Hd1 := hide hd1; clear hc1 hd1)
    | (go_at_call 70; refine (HY.out _ Hc1.out).mono ?_; rintro e w2 ⟨y, rfl, ⟨hy1, hy2⟩, hc2, hd2⟩; have Hc2 := hide hc2; have Hd2 := hide (Hd1.out.trans hd2); clear hc2 hd2))
  have hy3 := hy2 (by omega)
  go_loopw [3, 4] (fun n k wr => ∃ (m : Int) (j : Nat), (0 ≤ m ∧ m ≤ 18446744073709551615) ∧ j ≤ 7 ∧ n = .int .u64 m ∧ k = .int .i64 j ∧ Cur g A c zs (K + 10 - j) wr ∧ Dw g w wr) (fun _ k _ => (intOf k).toNat)
  case atStart => exact ⟨x, y.toNat, by omega, by omega, rfl, congrArg (Value.int .i64) (by omega), Hc2.out.more (by omega), Hd2.out⟩
  case round =>
    obtain ⟨m, j, ⟨hm1, hm2⟩, hj, rfl, rfl, hc, hd⟩ := hrel
    by_cases h0 : 0 < j
    · have h0I : (0 : Int) < (j : Int) := by omega
      have Hc := hide hc; have Hd := hide hd
      clear hc hd hy2
      go_wp2_with (go_at_call 109; refine (HN.out _ (by omega) _ Hc.out).mono ?_; rintro e w3 ⟨z, rfl, ⟨hz1, hz2⟩, hc3, hd3⟩; have Hc3 := hide hc3; have Hd3 := hide (Hd.out.trans hd3); clear hc3 hd3)
      go_roundw
      case rel => exact ⟨_, j - 1, u64_rng _, by omega, rfl, congrArg (Value.int .i64) (by omega), Hc3.out.more (by omega), Hd3.out⟩
      case measure => simp [intOf]; omega
    · obtain rfl : j = 0 := by omega
      have Hc := hide (hc.more (Nat.sub_le _ _)); have Hd := hide hd
      clear hc hd hy2
      go_wp2_with (first
        | (go_at_call 65; refine (HO.out _ Hc.out).mono ?_; rintro e w4 ⟨b, rfl, hc4, hd4⟩; have hg4 := hc4.lt; have Hc4 := hide hc4; have Hd4 := hide (Hd.out.trans hd4); clear hc4 hd4)
        | (go_at_call 70; refine (HP.out _ (Hc4.out.below ((Below.refl _ _).alloc (Nat.le_refl _) _))).mono ?_; rintro e w5 ⟨y5, rfl, hx5, hc5, hd5⟩; obtain ⟨k, rfl, hk⟩ := pick9 hx5; have hkI : (k : Int) < 9 := hx5.2 (by decide); have hkI0 : (0 : Int) ≤ (k : Int) := Int.natCast_nonneg k; have hb5 := hd5.bk (tab_new w4) (Nat.ne_of_gt hg4); have hcell := bk_ints hb5 hk; have hr5 := tabU_rng _ (List.getElem_mem hk); have hql := hb5.lt; have Hc5 := hide hc5; have Hd5 := hide ((Hd4.out.alloc _).trans hd5); clear hc5 hd5 hb5))
      · go_ret
        exact ⟨_, rfl, hr5, Hc5.out.more (by omega), Hd5.out⟩
      · go_ret
        exact ⟨_, rfl, ⟨hm1, hm2⟩, Hc4.out.more (by omega), Hd4.out⟩
def SintP (g : Nat) (A : Option Addr) (c : Nat) (zs : List Int) (K : Nat) (w : World) (e : Ending) (w' : World) : Prop := ∃ n : Int, e = .returned (.int .i64 n) ∧ (-9223372036854775808 ≤ n ∧ n ≤ 9223372036854775807) ∧ Cur g A c zs (K + 16) w' ∧ Dw g w w'
def tabS : List Int := [0, 1, -1, 63, 64, -64, -65, 127, 128, 8191, 8192, -8192, -8193, 4611686018427387903, 4611686018427387904, -4611686018427387904, 9223372036854775807, -9223372036854775808]
theorem tabS_rng : ∀ z ∈ tabS, -9223372036854775808 ≤ z ∧ z ≤ 9223372036854775807 := by decide
set_option maxHeartbeats 1600000 in
theorem cur_sint (g : Nat) (A : Option Addr) (c : Nat) (zs : List Int) (K : Nat) (w : World) (hc : Cur g A c zs K w) (hK : K ≤ 2000000000000000000) :
    Calls Try.prog 66 #[.pointer (some ⟨g, 0, none⟩)] w (SintP g A c zs K w) := by
  have hx := cur_among g A c zs K _ w.heap.size 3 tabS (hc.below ((Below.refl _ _).alloc (Nat.le_refl _) (.cells (icells .i64 tabS).toArray 3))) (by omega) (Bk.new w 3 _) (Nat.ne_of_gt hc.lt) (by decide) (by decide)
  have HX := hide hx
  clear hx hc
  go_enter Try.func66, Try.ntmps66
  go_wp2_with (go_at_call 112; refine (HX.out).mono ?_; rintro e w1 ⟨x, rfl, hx, hc1, hd1⟩; have hr := tabS_rng _ hx; have Hc1 := hide hc1; have Hd1 := hide (((Dw.refl g w).alloc _).trans hd1); clear hc1 hd1 hx)
  go_ret
  exact ⟨_, rfl, hr, Hc1.out.more (by omega), Hd1.out⟩
/-- the choices' state at its start -/
theorem cur_start {w : World} {v : Value} {zs : List Int} (hr : Rd w w.heap.size v zs.length (icells .u8 zs)) (hz : ∀ z ∈ zs, 0 ≤ z ∧ z ≤ 255) : ∃ A c, v = .slice A zs.length c ∧ Cur w.heap.size A c zs 0 (w.alloc (.cells #[.slice A zs.length c, .int .i64 0, .int .u64 0] 80)) := by
  obtain ⟨A, c, rfl, h1, h2, h3⟩ := id hr
  exact ⟨A, c, rfl, ⟨0, 0, Nat.le_refl _, by omega, Bk.new _ _ _⟩, hr.below ((Below.refl _ _).alloc (Nat.le_refl _) _), hz⟩
theorem dw_below {w w1 : World} {o : Obj} (h : Dw w.heap.size (w.alloc o) w1) : Below w.heap.size w w1 := ((Below.refl _ _).alloc (Nat.le_refl _) o).trans (h.below (Nat.le_refl _) (by simp))
set_option maxHeartbeats 1600000 in
theorem spec_DrawPutU (v : Value) (zs : List Int) (w : World) (hr : Rd w w.heap.size v zs.length (icells .u8 zs)) (hz : ∀ z ∈ zs, 0 ≤ z ∧ z ≤ 255) :
    Calls Try.prog 9 #[v] w fun e w' => ∃ n : Nat, e = .returned (.int .u64 n) ∧ n < 18446744073709551616 ∧ Below w.heap.size w w' := by
  obtain ⟨A, c, rfl, hc⟩ := cur_start hr hz
  have HX := hide (cur_u64 _ _ _ _ _ _ hc (by decide))
  clear hr hc
  go_enter Try.func9, Try.ntmps9
  go_wp2_with (go_at_call 61; refine (HX.out).mono ?_; rintro e w1 ⟨n, rfl, ⟨hn1, hn2⟩, _, hd⟩; obtain ⟨m, rfl⟩ := Int.eq_ofNat_of_zero_le hn1; have Hb := hide (dw_below hd); clear hd)
  go_ret
  exact ⟨m, rfl, by omega, Hb.out⟩
set_option maxHeartbeats 1600000 in
theorem spec_DrawPutS (v : Value) (zs : List Int) (w : World) (hr : Rd w w.heap.size v zs.length (icells .u8 zs)) (hz : ∀ z ∈ zs, 0 ≤ z ∧ z ≤ 255) :
    Calls Try.prog 15 #[v] w fun e w' => ∃ n : Int, e = .returned (.int .i64 n) ∧ (-9223372036854775808 ≤ n ∧ n ≤ 9223372036854775807) ∧ Below w.heap.size w w' := by
  obtain ⟨A, c, rfl, hc⟩ := cur_start hr hz
  have ho := cur_one _ _ _ _ _ _ 2 hc (by decide) (by decide)
  have hu := fun w1 (h : Cur w.heap.size A c zs (0 + 2) w1) => cur_u64 _ _ _ _ _ _ h (by decide)
  have hs := fun w1 (h : Cur w.heap.size A c zs (0 + 2) w1) => cur_sint _ _ _ _ _ _ h (by decide)
  have HO := Lib.hid ho; have HU := Lib.hid hu; have HS := Lib.hid hs
  clear hr hc ho hu hs
  go_enter Try.func15, Try.ntmps15
  go_wp2_with (first
    | (go_at_call 65; refine (HO.out).mono ?_; rintro e w1 ⟨b, rfl, hc1, hd1⟩; have Hc1 := hide hc1; have Hd1 := hide hd1; clear hc1 hd1)
    | (go_at_call 61; refine (HU.out _ Hc1.out).mono ?_; rintro e w2 ⟨n, rfl, hn, _, hd⟩; have Hb := hide (dw_below (Hd1.out.trans hd)); clear hd)
    | (go_at_call 66; refine (HS.out _ Hc1.out).mono ?_; rintro e w2 ⟨n, rfl, hn, _, hd⟩; have Hb := hide (dw_below (Hd1.out.trans hd)); clear hd))
  · go_ret
    exact ⟨_, rfl, by unfold wrap64; omega, Hb.out⟩
  · go_ret
    exact ⟨_, rfl, hn, Hb.out⟩
end Go.Proofs.Ytheddnjhkcpmnaa
