
/- l1Same, slices.Equal of ints: what the Go text returns. No condition. -/
import Derived.Test.YtaebmliolpgmdaaSl6
set_option linter.unusedSimpArgs false
set_option linter.unusedVariables false
set_option maxRecDepth 100000
namespace Go.Proofs.Ytaebmliolpgmdaa
open Go.RowKit

def sameB (xs ys : List Int) : Bool := decide (xs = ys)
theorem sameB_self (xs : List Int) : true = sameB xs xs := by simp [sameB]
theorem sameB_len {xs ys : List Int} (h : xs.length ≠ ys.length) : false = sameB xs ys := by
  unfold sameB; rw [decide_eq_false]; intro e; exact h (by rw [e])
theorem sameB_ne {xs ys : List Int} {k : Nat} (h1 : k < xs.length) (h2 : k < ys.length) (h : xs[k] ≠ ys[k]) : false = sameB xs ys := by
  unfold sameB; rw [decide_eq_false]; intro e; subst e; exact h rfl
theorem sameB_all {xs ys : List Int} (h : xs.length = ys.length) (h2 : xs.take xs.length = ys.take xs.length) : true = sameB xs ys := by
  unfold sameB; rw [decide_eq_true]; rw [List.take_length, h, List.take_length] at h2; exact h2
theorem take_snoc2 {xs ys : List Int} {k : Nat} (h1 : k < xs.length) (h2 : k < ys.length) (h : xs[k] = ys[k]) (e : xs.take k = ys.take k) : xs.take (k + 1) = ys.take (k + 1) := by
  rw [List.take_succ_eq_append_getElem h1, List.take_succ_eq_append_getElem h2, h, e]

set_option maxHeartbeats 400000 in
theorem spec_l1Same (v v2 : Value) (xs ys : List Int) (w : World) (B B2 n m : Nat) (hx : xs.length = n) (hy : ys.length = m) (hr : Rd w B v n (icells .i64 xs)) (hr2 : Rd w B2 v2 m (icells .i64 ys)) :
    Calls Try.prog 39 #[v, v2] w fun e w' => e = .returned (.bool (sameB xs ys)) ∧ ∃ q, w' = w.drewN q := by
  obtain ⟨A, c, rfl, hn, hc, hcell⟩ := id hr
  obtain ⟨A2, c2, rfl, hn2, hc2, hcell2⟩ := id hr2
  have hl : n ≤ 9223372036854775807 := by unfold maxLen at hc; omega
  have hl2 : m ≤ 9223372036854775807 := by unfold maxLen at hc2; omega
  have Hr := hide hr; have Hr2 := hide hr2; have Hx := hide hx; have Hy := hide hy
  clear hr hr2 hcell hcell2 hn hn2 hc hc2 hx hy
  by_cases hne : n = m
  · subst hne
    go_enter Try.func39, Try.ntmps39
    go_wp2
    go_loopw [13] (fun i wr => ∃ k q : Nat, k ≤ n ∧ i = .int .i64 k ∧ wr = w.drewN q ∧ xs.take k = ys.take k) (fun i _ => n - (intOf i).toNat)
    case atStart => exact ⟨0, 0, by omega, rfl, rfl, rfl⟩
    case round =>
      obtain ⟨k, q, hk, rfl, rfl, htk⟩ := hrel
      have Htk := hide htk; clear htk
      by_cases hlt : k < n
      · have hkx : k < xs.length := by rw [Hx.out]; exact hlt
        have hky : k < ys.length := by rw [Hy.out]; exact hlt
        obtain ⟨b, o, rfl, hbB, hsrc⟩ := Hr.out.at_ (j := k) (by rw [icells_length]; exact hkx)
        obtain ⟨b2, o2, rfl, hbB2, hsrc2⟩ := Hr2.out.at_ (j := k) (by rw [icells_length]; exact hky)
        rw [icells_get _ _ hkx] at hsrc
        rw [icells_get _ _ hky] at hsrc2
        have hyes := fun h => take_snoc2 hkx hky h Htk.out
        have hno := fun h => sameB_ne hkx hky h
        generalize xs[k] = x at *
        generalize ys[k] = y at *
        clear Hr Hr2 hkx hky
        by_cases hxy : x = y
        · have Hyes := hide (hyes hxy); clear hyes hno
          subst hxy
          go_wp2
          go_quiet (fail)
          go_wp2
          go_roundw
          case rel => exact ⟨k + 1, _, by omega, by go_num, rfl, Hyes.out⟩
          case measure => simp [intOf]; omega
        · have Hno := hide (hno hxy); clear hyes hno
          have hxb : (x != y) = true := by rw [bne_iff_ne]; exact hxy
          have Hxy := hide hxy; clear hxy
          go_wp2
          go_quiet (fail)
          go_wp2
          go_ret
          exact ⟨retB Hno.out, _, World.drewN_drewN _ _ _⟩
      · obtain rfl : k = n := by omega
        have Hall := hide (sameB_all (xs := xs) (ys := ys) (by rw [Hx.out, Hy.out]) (by rw [Hx.out]; exact Htk.out))
        go_wp2
        go_ret
        exact ⟨retB Hall.out, _, rfl⟩
  · have hxb : ((n : Int) != m) = true := by rw [bne_iff_ne]; omega
    have Hn := hide (sameB_len (xs := xs) (ys := ys) (by rw [Hx.out, Hy.out]; exact hne)); clear hne
    go_enter Try.func39, Try.ntmps39
    go_wp2
    go_ret
    exact ⟨retB Hn.out, 0, rfl⟩

set_option maxHeartbeats 400000 in
theorem slices_Equal (v v2 : Value) (xs ys : List Int) (w : World) (B B2 n m : Nat) (hx : xs.length = n) (hy : ys.length = m) (hr : Rd w B v n (icells .i64 xs)) (hr2 : Rd w B2 v2 m (icells .i64 ys)) :
    Calls Try.prog 45 #[v, v2] w fun e w' => e = .returned (.bool (sameB xs ys)) ∧ ∃ q, w' = w.drewN q := by
  obtain ⟨A, c, rfl, hn, hc, hcell⟩ := id hr
  obtain ⟨A2, c2, rfl, hn2, hc2, hcell2⟩ := id hr2
  have hl : n ≤ 9223372036854775807 := by unfold maxLen at hc; omega
  have hl2 : m ≤ 9223372036854775807 := by unfold maxLen at hc2; omega
  have Hr := hide hr; have Hr2 := hide hr2; have Hx := hide hx; have Hy := hide hy
  clear hr hr2 hcell hcell2 hn hn2 hc hc2 hx hy
  by_cases hne : n = m
  · subst hne
    go_enter Try.func45, Try.ntmps45
    go_wp2
    go_loopw [13] (fun i wr => ∃ k q : Nat, k ≤ n ∧ i = .int .i64 k ∧ wr = w.drewN q ∧ xs.take k = ys.take k) (fun i _ => n - (intOf i).toNat)
    case atStart => exact ⟨0, 0, by omega, rfl, rfl, rfl⟩
    case round =>
      obtain ⟨k, q, hk, rfl, rfl, htk⟩ := hrel
      have Htk := hide htk; clear htk
      by_cases hlt : k < n
      · have hkx : k < xs.length := by rw [Hx.out]; exact hlt
        have hky : k < ys.length := by rw [Hy.out]; exact hlt
        obtain ⟨b, o, rfl, hbB, hsrc⟩ := Hr.out.at_ (j := k) (by rw [icells_length]; exact hkx)
        obtain ⟨b2, o2, rfl, hbB2, hsrc2⟩ := Hr2.out.at_ (j := k) (by rw [icells_length]; exact hky)
        rw [icells_get _ _ hkx] at hsrc
        rw [icells_get _ _ hky] at hsrc2
        have hyes := fun h => take_snoc2 hkx hky h Htk.out
        have hno := fun h => sameB_ne hkx hky h
        generalize xs[k] = x at *
        generalize ys[k] = y at *
        clear Hr Hr2 hkx hky
        by_cases hxy : x = y
        · have Hyes := hide (hyes hxy); clear hyes hno
          subst hxy
          go_wp2
          go_quiet (fail)
          go_wp2
          go_roundw
          case rel => exact ⟨k + 1, _, by omega, by go_num, rfl, Hyes.out⟩
          case measure => simp [intOf]; omega
        · have Hno := hide (hno hxy); clear hyes hno
          have hxb : (x != y) = true := by rw [bne_iff_ne]; exact hxy
          have Hxy := hide hxy; clear hxy
          go_wp2
          go_quiet (fail)
          go_wp2
          go_ret
          exact ⟨retB Hno.out, _, World.drewN_drewN _ _ _⟩
      · obtain rfl : k = n := by omega
        have Hall := hide (sameB_all (xs := xs) (ys := ys) (by rw [Hx.out, Hy.out]) (by rw [Hx.out]; exact Htk.out))
        go_wp2
        go_ret
        exact ⟨retB Hall.out, _, rfl⟩
  · have hxb : ((n : Int) != m) = true := by rw [bne_iff_ne]; omega
    have Hn := hide (sameB_len (xs := xs) (ys := ys) (by rw [Hx.out, Hy.out]; exact hne)); clear hne
    go_enter Try.func45, Try.ntmps45
    go_wp2
    go_ret
    exact ⟨retB Hn.out, 0, rfl⟩
end Go.Proofs.Ytaebmliolpgmdaa
