
/- FnLebLists: the call returns true. No condition. -/
import Derived.Test.YtheddnjhkcpmnaaDr4
import Derived.Test.YtheddnjhkcpmnaaRl
import Derived.Test.YtheddnjhkcpmnaaRlI
import Derived.Test.YtheddnjhkcpmnaaLebL
import Derived.Test.YtheddnjhkcpmnaaOpen
import Derived.Test.YtheddnjhkcpmnaaBigM
set_option linter.unusedSimpArgs false
set_option linter.unusedVariables false
set_option maxRecDepth 100000
namespace Go.Proofs.Ytheddnjhkcpmnaa
open Go.RowKit Go.WideShapes Go.ChangeShapes

set_option maxHeartbeats 1600000 in
theorem laws_sameU (v v2 : Value) (zs : List Int) (w : World) (B B2 : Nat) (hr : Rd w B v zs.length (icells .u64 zs)) (hr2 : Rd w B2 v2 zs.length (icells .u64 zs)) (hl : zs.length ≤ 9223372036854775807) :
    Calls Try.prog 26 #[v, v2] w fun e w' => e = .returned (.bool true) ∧ Below w.heap.size w w' := by
  obtain ⟨A, c, rfl, _, _, _⟩ := id hr
  obtain ⟨A2, c2, rfl, _, _, _⟩ := id hr2
  have Hr := hide hr; have Hr2 := hide hr2
  clear hr hr2
  go_enter Try.func26, Try.ntmps26
  go_wp2
  go_loopw [13] (fun i wr => ∃ k q : Nat, k ≤ zs.length ∧ i = .int .i64 k ∧ wr = w.drewN q) (fun i _ => zs.length - (intOf i).toNat)
  case atStart => exact ⟨0, 0, by omega, rfl, rfl⟩
  case round =>
    obtain ⟨k, q, hk, rfl, rfl⟩ := hrel
    by_cases hlt : k < zs.length
    · obtain ⟨b, o, rfl, hb, h1⟩ := Hr.out.at_ (j := k) (by rw [icells_length]; exact hlt)
      obtain ⟨b2, o2, rfl, hb2, h2⟩ := Hr2.out.at_ (j := k) (by rw [icells_length]; exact hlt)
      rw [icells_get _ _ hlt] at h1 h2
      generalize zs[k] = z at *
      have hkI : (k : Int) < (zs.length : Int) := by omega
      have hk0 : (0 : Int) ≤ (k : Int) := by omega
      go_wp2
      go_quiet (fail)
      go_wp2
      go_roundw
      case rel => exact ⟨k + 1, _, by omega, by go_num, rfl⟩
      case measure => simp [intOf]; omega
    · have hkI : ¬ (k : Int) < (zs.length : Int) := by omega
      go_wp2
      go_ret
      exact ⟨rfl, below_drewN (Below.refl _ _) _⟩
set_option maxHeartbeats 6400000 in
theorem law_FnLebLists (w : World) (v1 : Value) (i1 : IsU8s w v1) (v2 : Value) (i2 : IsU8s w v2) :
    Calls Try.prog 4 #[v1, v2] w fun e w' => e = .returned (.bool true) ∧ Below w.heap.size w w' := by
  obtain ⟨z1, hr1, hz1⟩ := i1
  obtain ⟨z2, hr2, hz2⟩ := i2
  have hy1 : ∀ z ∈ z1, 0 ≤ z ∧ z ≤ 255 := fun z h => bd_u8 (hz1 z h)
  have hy2 : ∀ z ∈ z2, 0 ≤ z ∧ z ≤ 255 := fun z h => bd_u8 (hz2 z h)
  have hd1 := fun W (hW : Below w.heap.size w W) => spec_DrawListU _ z1 W (hr1.here hW) hy1
  have hd2 := fun W (hW : Below w.heap.size w W) => spec_DrawReadListU _ z2 W (hr2.here hW) hy2
  obtain ⟨A1, c1, rfl, p1, p2, _⟩ := id hr1
  obtain ⟨A2, c2, rfl, p3, p4, _⟩ := id hr2
  have hB := fun W => laws_big A1 A2 c1 c2 z1.length z2.length (by unfold maxLen at p2; omega) (by unfold maxLen at p4; omega) W
  have D1 := Lib.hid hd1; have D2 := Lib.hid hd2
  clear hr1 hr2 hz1 hz2 hy1 hy2 hd1 hd2 p1 p2 p3 p4
  cases hbig : bigB z1.length z2.length
  case true =>
    simp only [hbig] at hB
    have HB := Lib.hid hB
    clear hB hbig D1 D2
    go_enter Try.func4, Try.ntmps4
    go_wp2_with (go_at_call 8; refine (HB.out _).mono ?_; rintro e w1 ⟨rfl, rfl⟩)
    go_ret
    exact ⟨rfl, Below.refl _ _⟩
  simp only [hbig] at hB
  have HB := Lib.hid hB; have Hb := hide (Below.refl w.heap.size w)
  clear hB hbig
  go_enter Try.func4, Try.ntmps4
  go_upto_region 4 with (first
    | (go_at_call 8; refine (HB.out _).mono ?_; rintro e w1 ⟨rfl, rfl⟩)
    | (go_at_call 22; refine (D1.out _ Hb.out).mono ?_; rintro e w1 ⟨u, xs, rfl, hown, hxs, hxl, hb⟩; obtain ⟨Au, Cu, rfl⟩ := own_form hown; have Hu := hide (Rd.of_own hown); have Hxs := Lib.hid hxs; have Hb := hide (Hb.out.trans (hb.mono Hb.out.size)); clear hown hxs hb))
  have hback := rdL_back xs Hxs.out
  have hsz := luS_size xs
  have hI := fun W (h : Rd W W.heap.size (.slice Au xs.length Cu) xs.length (icells .u64 xs)) => impl_ListU _ xs W h Hxs.out (by omega)
  have hS := fun W (h : Rd W W.heap.size (.slice Au xs.length Cu) xs.length (icells .u64 xs)) => spec_ListU _ xs W h Hxs.out (by omega)
  have hR := fun W => impl_ReadListU (luS xs) 0 (by omega) (by omega) (by omega) W
  generalize luS xs = S at *
  generalize luB xs = ok at *
  have HI := Lib.hid hI; have HS := Lib.hid hS
  clear hI hS D1 HB
  go_upto_region 8 with (first
    | (go_at_call 23; refine (HI.out _ Hu.out).mono ?_; rintro e w2 ⟨rfl, hb⟩; have Hu := hide (Hu.out.here hb); have Hb := hide (Hb.out.trans (hb.mono Hb.out.size)); clear hb)
    | (go_at_call 24; refine (HS.out _ Hu.out).mono ?_; rintro e w3 ⟨rfl, hb⟩; have Hu := hide (Hu.out.here hb); have Hb := hide (Hb.out.trans (hb.mono Hb.out.size)); clear hb))
  clear HI HS
  cases ok
  case' true => rw [hback rfl] at hR
  all_goals
    have HR := Lib.hid hR
    clear hR hback
    go_upto_region 13 with (first
      | (go_at_call_of 25 (Value.string S); refine (HR.out _).mono ?_; rintro e w4 ⟨g, rfl, hown, hb⟩; obtain ⟨Ag, Cg, rfl⟩ := own_form hown; have Hu := hide (Hu.out.here hb); have Hg := hide (Rd.of_own hown); have Hb := hide (Hb.out.trans (hb.mono Hb.out.size)); clear hown hb)
      | (go_at_call 26; refine (laws_sameU _ _ xs _ _ _ Hg.out Hu.out (by omega)).mono ?_; rintro e w5 ⟨rfl, hb⟩; have Hb := hide (Hb.out.trans (hb.mono Hb.out.size)); clear hb)
      | (go_at_call 27; refine (D2.out _ Hb.out).mono ?_; rintro e w6 ⟨t, n, rfl, ht, ⟨hn1, hn2⟩, hb⟩; have Hb := hide (Hb.out.trans (hb.mono Hb.out.size)); clear hb))
    have hi := fun W => impl_ReadListU t n (by omega) (by omega) (by omega) W
    have hs := fun W => spec_ReadListU t n (by omega) (by omega) (by omega) W
    have hl : (rdL t n).1.length ≤ 9223372036854775807 := Nat.le_trans (rdL_lenB t n) (by omega)
    generalize rdL t n = r at *
    obtain ⟨l, x, o⟩ := r
    dsimp only at *
    have HI := Lib.hid hi; have HS := Lib.hid hs
    clear hi hs HR
    go_wp2_with (first
      | (go_at_call 25; refine (HI.out _).mono ?_; rintro e w7 ⟨g7, rfl, hown, hb⟩; obtain ⟨A7, C7, rfl⟩ := own_form hown; have H7 := hide (Rd.of_own hown); have Hb := hide (Hb.out.trans (hb.mono Hb.out.size)); clear hown hb)
      | (go_at_call 28; refine (HS.out _).mono ?_; rintro e w8 ⟨g8, rfl, hown, hb⟩; obtain ⟨A8, C8, rfl⟩ := own_form hown; have H7 := hide (H7.out.here hb); have H8 := hide (Rd.of_own hown); have Hb := hide (Hb.out.trans (hb.mono Hb.out.size)); clear hown hb)
      | (go_at_call 26; refine (laws_sameU _ _ l _ _ _ H7.out H8.out hl).mono ?_; rintro e w9 ⟨rfl, hb⟩; have Hb := hide (Hb.out.trans (hb.mono Hb.out.size)); clear hb))
    go_ret
    exact ⟨rfl, Hb.out⟩
end Go.Proofs.Ytheddnjhkcpmnaa
