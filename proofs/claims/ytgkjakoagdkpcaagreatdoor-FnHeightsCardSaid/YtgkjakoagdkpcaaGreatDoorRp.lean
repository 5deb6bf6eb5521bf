
/- slices.Repeat of one number: what the Go text returns. No condition. -/
import Derived.Test.YtgkjakoagdkpcaaGreatDoorSl6
import Derived.Laws.CopyOwn
import Derived.Deep.RegionLaw
import Derived.Shelf.Bits.Mul64
set_option linter.unusedSimpArgs false
set_option linter.unusedVariables false
set_option maxRecDepth 100000
namespace Go.Proofs.YtgkjakoagdkpcaaGreatDoor
open Go.RowKit

set_option maxHeartbeats 1600000 in
theorem bits_Mul64_1 (n : Nat) (hn : n ≤ 1000) (w : World) :
    Calls Tryz.prog 108 #[.int .u64 1, .int .u64 n] w fun e w' => e = .returned (.tuple #[.int .u64 0, .int .u64 n]) ∧ w' = w := by
  have m1 : bits .and .u64 1 4294967295 = 1 := by decide
  have mn : bits .and .u64 (n : Int) 4294967295 = n := by rw [Mul64.maskN n (by omega), Nat.mod_eq_of_lt (by omega)]
  have dn : (n : Int) / 4294967296 = 0 := by omega
  have m0 : bits .and .u64 0 4294967295 = 0 := by decide
  have wn : IntKind.u64.wrap (n : Int) = n := Mul64.wrapN n (by omega)
  go_enter Tryz.func108, Tryz.ntmps108
  go_wp2
  go_ret2
  exact ⟨rfl, rfl⟩
theorem bits_Mul_1 (n : Nat) (hn : n ≤ 1000) (w : World) :
    Calls Tryz.prog 90 #[.int .u64 1, .int .u64 n] w fun e w' => e = .returned (.tuple #[.int .u64 0, .int .u64 n]) ∧ w = w' := by
  go_enter Tryz.func90, Tryz.ntmps90
  go_wp2_with (go_at_call 108; refine (bits_Mul64_1 n hn _).mono ?_; rintro e w' ⟨rfl, rfl⟩)
  go_ret2
  exact ⟨rfl, rfl⟩
/-- n times -1, then nought -/
def fillN (N n : Nat) : List Value := List.replicate n (.int .i64 (-1)) ++ List.replicate (N - n) (Value.int .i64 0)
theorem fillN_length {N n : Nat} (h : n ≤ N) : (fillN N n).length = N := by simp [fillN]; omega
theorem fillN_splice {N n m : Nat} (h : n + m ≤ N) : splice (fillN N n) n (List.replicate m (Value.int .i64 (-1))) = fillN N (n + m) := by
  unfold splice fillN
  have e1 : (List.replicate n (Value.int .i64 (-1)) ++ List.replicate (N - n) (Value.int .i64 0)).take n = List.replicate n (Value.int .i64 (-1)) := by
    rw [List.take_append_of_le_length (by simp)]; simp
  have e2 : (List.replicate n (Value.int .i64 (-1)) ++ List.replicate (N - n) (Value.int .i64 0)).drop (n + m) = List.replicate (N - (n + m)) (Value.int .i64 0) := by
    rw [List.drop_append]; simp; omega
  rw [List.length_replicate, e1, e2, ← List.append_assoc, List.replicate_append_replicate]
theorem fillN_zero {N : Nat} : fillN N 0 = icells .i64 (List.replicate N 0) := by simp [fillN, icells]
theorem fillN_all (N : Nat) : fillN N N = icells .i64 (List.replicate N (-1)) := by simp [fillN, icells]
theorem bk_of_own {w : World} {base g n : Nat} {e : TypeId} {xs : List Value} (h : w.ownsRow base e 1 (.slice (some ⟨g, 0, none⟩) n n) n xs) : w.heap[g]? = some (.cells xs.toArray e (0, 0)) ∧ base ≤ g := by
  rcases h.2 with ⟨e, _⟩ | ⟨g', cap, cur, e, hg, hh, hn, hc, hcs, htk⟩
  · cases e
  · injection e with e1 e2 e3
    injection e1 with e1
    injection e1 with e1
    subst e1
    subst e3
    rw [Nat.mul_one] at hcs htk
    have hx : xs = cur.toList := by
      have : cur.toList.take n = cur.toList := List.take_of_length_le (by simp; omega)
      simp_all
    subst hx
    exact ⟨hh, hg⟩
theorem copy_src {w : World} {g0 : Nat} (hk : Bk w g0 3 #[.int .i64 (-1)]) : ∀ j v, ([.int .i64 (-1)] : List Value)[j]? = some v → w.cell? ((⟨g0, 0, none⟩ : Addr).add j) = some v := fun j v hj => by
  cases j with
  | zero => rw [← hj]; exact hk.cell 0
  | succ j => simp at hj
set_option maxHeartbeats 3200000 in
theorem slices_Repeat (g0 N : Nat) (w : World) (h1 : 1 ≤ N) (h3 : N ≤ 300) (hk : Bk w g0 3 #[.int .i64 (-1)]) :
    Calls Tryz.prog 80 #[.slice (some ⟨g0, 0, none⟩) 1 1, .int .i64 N] w fun e w' => e = .returned (.slice (some ⟨w.heap.size, 0, none⟩) N N) ∧ Bk w' w.heap.size 3 (icells .i64 (List.replicate N (-1))).toArray ∧ Below w.heap.size w w' := by
  have hl0 := hk.lt
  have Hk := hide hk; clear hk
  have Hsz := hide (show (Tryz.prog.info? 3).map (·.size) = some 1 by kernel_rfl)
  have Hmin := hide (show ([.int .i64 (-1)] : List Value).length = Nat.min 1 N from (Nat.min_eq_left h1).symm)
  have Hfit := hide (show 0 + ([.int .i64 (-1)] : List Value).length ≤ (fillN N 0).length by rw [fillN_length (by omega)]; simp; omega)
  have Hone := hide (show ∀ v ∈ ([.int .i64 (-1)] : List Value), v.oneCell' = true by simp [Value.oneCell'])
  go_enter Tryz.func80, Tryz.ntmps80
  go_wp2_with (first
    | (go_at_call 90; refine (bits_Mul_1 N (by omega) _).mono ?_; rintro e w' ⟨rfl, rfl⟩)
    | (at_make; go_must (refine wpList_makeN rfl _ _ _ rfl okI64 N rfl rfl (by omega) (by unfold maxLen; omega) ?_); intro w1 hown1 hb1; rw [made_int] at hown1; have hg1 := (bk_of_own hown1).1; rw [← fillN_zero] at hg1; have Hg1 := hide hg1; have Hb1 := hide hb1; have Hsrc := hide (copy_src (Hk.out.below hb1)); clear hown1 hb1 hg1)
    | (refine wpList_copy_splice rfl _ _ _ _ rfl 3 Tryz.underlying29 Hsz.out _ _ _ _ _ _ rfl rfl w.heap.size 0 (fillN N 0) 3 Hg1.out [.int .i64 (-1)] Hmin.out (fun _ => ⟨rfl, _, rfl, Hsrc.out⟩) Hfit.out Hone.out w.heap.size w Hb1.out (Nat.le_refl _) ?_; intro w2 HG2 hb2))
  have hg2 := HG2.out
  rw [show ([.int .i64 (-1)] : List Value) = List.replicate 1 (.int .i64 (-1)) from rfl, fillN_splice (by omega)] at hg2
  have HF2 := hide hg2; have HB2 := hide hb2
  clear hg2 HG2 hb2 Hsrc Hg1 Hb1 Hk Hsz Hmin Hfit Hone
  go_wp2
  go_loopw [8] (fun i wr => ∃ n : Nat, 1 ≤ n ∧ n ≤ N ∧ i = .int .i64 n ∧ wr.heap[w.heap.size]? = some (.cells (fillN N n).toArray 3 (0, 0)) ∧ Below w.heap.size w wr) (fun i _ => N - (intOf i).toNat)
  case atStart => exact ⟨1, by omega, h1, rfl, HF2.out, HB2.out⟩
  case round =>
    obtain ⟨n, hn1, hnN, rfl, hg, hb⟩ := hrel
    by_cases hlt : n < N
    · have hsrc : ∀ j v, (List.replicate (Nat.min n (N - n)) (Value.int .i64 (-1)))[j]? = some v → wr.cell? ((⟨w.heap.size, 0, none⟩ : Addr).add j) = some v := fun j v hj => by
        have hjl : j < Nat.min n (N - n) := by
          by_cases h : j < Nat.min n (N - n)
          · exact h
          · rw [List.getElem?_eq_none (by simp; omega)] at hj; cases hj
        have hjn : j < n := Nat.lt_of_lt_of_le hjl (Nat.min_le_left _ _)
        have hp : ((⟨w.heap.size, 0, none⟩ : Addr).add j) = ⟨w.heap.size, j, none⟩ := by unfold Addr.add; split <;> simp_all
        rw [hp, (show Bk wr w.heap.size 3 (fillN N n).toArray from hg).cell j]
        rw [List.getElem?_replicate] at hj
        rw [if_pos hjl] at hj
        rw [← hj]
        simp [fillN, List.getElem?_append, hjn]
      have hm1 : Nat.min n (N - n) ≤ n := Nat.min_le_left _ _
      have hm2 : Nat.min n (N - n) ≤ N - n := Nat.min_le_right _ _
      have hm3 : 1 ≤ Nat.min n (N - n) := Nat.le_min.2 ⟨hn1, by omega⟩
      have Hsrc := hide hsrc; have Hg := hide hg; have Hb := hide hb
      clear hsrc hg hb
      obtain ⟨m, hm⟩ : ∃ m, m = Nat.min n (N - n) := ⟨_, rfl⟩
      rw [← hm] at hm1 hm2 hm3 Hsrc
      have hfit : n + (List.replicate m (Value.int .i64 (-1))).length ≤ (fillN N n).length := by rw [fillN_length hnN, List.length_replicate]; omega
      have hone : ∀ v ∈ List.replicate m (Value.int .i64 (-1)), v.oneCell' = true := fun v hv => by
        obtain ⟨_, rfl⟩ := List.mem_replicate.1 hv; rfl
      have hlen : (List.replicate m (Value.int .i64 (-1))).length = Nat.min n (N - n) := by rw [List.length_replicate]; exact hm
      have Hfit := hide hfit; have Hone := hide hone; have Hlen := hide hlen
      have Hsz := hide (show (Tryz.prog.info? 3).map (·.size) = some 1 by kernel_rfl)
      clear hm hfit hone hlen
      go_wp2_with fail
      go_region_law (refine step_copy_splice rfl (.tmp 41) (.tmp 44) 29 29 rfl 3 Tryz.underlying29 Hsz.out (some ⟨w.heap.size, n, none⟩) (some ⟨w.heap.size, 0, none⟩) (N - n) (N - n) n N (by simp [Act.eval, Act.put] <;> omega) (by simp [Act.eval, Act.put] <;> omega) w.heap.size n (fillN N n) 3 (by exact Hg.out) (List.replicate m (.int .i64 (-1))) Hlen.out (fun _ => ⟨rfl, _, rfl, by exact Hsrc.out⟩) Hfit.out Hone.out w.heap.size w (by exact Hb.out.drew) (Nat.le_refl _) ?_; intro w4 hg4 hb4; have HG4 := hide hg4.out; have HB4 := hide hb4; clear hg4 hb4)
      have hml : (List.replicate m (Value.int .i64 (-1))).length = m := List.length_replicate
      have hg4 := HG4.out
      rw [fillN_splice (by omega)] at hg4
      have HG5 := hide hg4
      clear hg4 HG4
      have hw : IntKind.i64.wrap ((n : Int) + (m : Int)) = ((n + m : Nat) : Int) := by simp [IntKind.wrap, IntKind.bits, IntKind.signed]; omega
      have Hw := hide hw; clear hw
      go_wp2
      go_roundw
      case rel => exact ⟨n + m, by omega, by omega, Hw.out, HG5.out, HB4.out⟩
      case measure => rw [Hw.out]; simp [intOf]; omega
    · obtain rfl : n = N := by omega
      rw [fillN_all] at hg
      have Hg := hide hg; have Hb := hide hb; clear hg hb
      go_wp2
      go_ret
      exact ⟨rfl, Hg.out, Hb.out⟩
end Go.Proofs.YtgkjakoagdkpcaaGreatDoor
