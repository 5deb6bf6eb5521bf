
/- spec.l2Digits: what the Go text returns. No condition but the text's length. -/
import Derived.Test.YtheddnjhkcpmnaaGreatDoorRxT
import Derived.Test.YtheddnjhkcpmnaaGreatDoorKit
import Derived.Test.YtheddnjhkcpmnaaGreatDoorChecked
set_option linter.unusedSimpArgs false
set_option linter.unusedVariables false
set_option maxRecDepth 100000
namespace Go.Proofs.YtheddnjhkcpmnaaGreatDoor
open Go.RowKit Go.Lib

theorem digB_bad {s : List UInt8} (h : s.length = 0 ∨ 10 < s.length ∨ (s.head? = some 48 ∧ 1 < s.length)) : digB s = -1 := if_pos h
theorem digB_none {s : List UInt8} (h : decFrom 0 s = none) : digB s = -1 := by unfold digB; rw [h]; split <;> rfl
theorem digB_some {s : List UInt8} {m : Nat} (h : ¬ (s.length = 0 ∨ 10 < s.length ∨ (s.head? = some 48 ∧ 1 < s.length))) (h2 : decFrom 0 s = some m) : digB s = m := by unfold digB; rw [if_neg h, h2]
theorem ba_get (s : ByteArray) (k : Nat) (h : k < s.size) : s.data.toList[k]? = some s[k] := by
  rw [List.getElem?_eq_getElem (by simpa using h)]; rfl
theorem ba_head (s : ByteArray) (h : 0 < s.size) : s.data.toList.head? = some s[0] := by
  rw [List.head?_eq_getElem?]; exact ba_get s 0 h
theorem ba_len (s : ByteArray) : s.data.toList.length = s.size := by simp
theorem u8_ne {b : UInt8} {n : Nat} (hn : n < 256) (h : b ≠ UInt8.ofNat n) : ((b.toNat : Int) == (n : Int)) = false := by
  rw [beq_eq_false_iff_ne]
  intro e
  apply h
  apply UInt8.toNat.inj
  simp; omega
set_option maxHeartbeats 1600000 in
theorem spec_l2Digits (s : ByteArray) (hs : s.size ≤ 9223372036854775807) (w : World) : Calls Tryz.prog 58 #[.string s] w fun e w' => e = .returned (.int .i64 (digB s.data.toList)) ∧ w = w' := by
  have hl := ba_len s
  by_cases h0 : s.size = 0
  · have HD := hide (digB_bad (s := s.data.toList) (.inl (by omega)))
    generalize digB s.data.toList = D at *
    clear hl
    go_enter Tryz.func58, Tryz.ntmps58
    go_wp2
    go_ret
    exact ⟨retI HD.out.symm, rfl⟩
  by_cases h1 : 10 < s.size
  · have HD := hide (digB_bad (s := s.data.toList) (.inr (.inl (by omega))))
    generalize digB s.data.toList = D at *
    have h1' : (10 : Int) < s.size := by omega
    clear hl
    go_enter Tryz.func58, Tryz.ntmps58
    go_wp2
    go_ret
    exact ⟨retI HD.out.symm, rfl⟩
  have h1' : ¬ (10 : Int) < s.size := by omega
  have hp : 0 < s.size := by omega
  have hh := ba_head s hp
  by_cases h2 : s[0] = 48 ∧ 1 < s.size
  · have HD := hide (digB_bad (s := s.data.toList) (.inr (.inr ⟨by rw [hh, h2.1], by omega⟩)))
    generalize digB s.data.toList = D at *
    obtain ⟨h3, h4⟩ := h2
    have hb : ((s[0].toNat : Int) == 48) = true := by rw [h3]; rfl
    have h4' : (1 : Int) < s.size := by omega
    clear hl hh h3
    go_enter Tryz.func58, Tryz.ntmps58
    go_wp2
    go_ret
    exact ⟨retI HD.out.symm, rfl⟩
  have hcond : ¬ (s.data.toList.length = 0 ∨ 10 < s.data.toList.length ∨ (s.data.toList.head? = some 48 ∧ 1 < s.data.toList.length)) := by
    rw [hl, hh]
    rintro (h | h | ⟨h, h'⟩)
    · exact h0 h
    · exact h1 h
    · exact h2 ⟨Option.some.inj h, h'⟩
  have HC := Lib.hid hcond
  have hnone := @digB_none s.data.toList
  have hsome := fun m => @digB_some s.data.toList m hcond
  have HN := Lib.hid hnone; have HS := Lib.hid hsome
  have hgate : ∀ (P : Prop), (((s[0].toNat : Int) == 48) = false → P) → (¬ (1 : Int) < s.size → P) → P := by
    intro P p1 p2
    by_cases e : s[0] = 48
    · exact p2 (fun h => h2 ⟨e, by omega⟩)
    · exact p1 (u8_ne (n := 48) (by decide) e)
  clear hcond hnone hsome h2 hh
  generalize digB s.data.toList = D at *
  refine hgate _ (fun hg => ?_) (fun hg => ?_)
  all_goals
    clear hgate
    go_enter Tryz.func58, Tryz.ntmps58
    go_wp2
    all_goals
      go_loop [3, 4] (fun n i => ∃ k m : Nat, k ≤ s.size ∧ i = .int .i64 k ∧ n = .int .i64 m ∧ decFrom 0 (s.data.toList.take k) = some m) (fun _ i => s.size - (intOf i).toNat)
      case atStart => exact ⟨0, 0, by omega, rfl, rfl, rfl⟩
      case round =>
        obtain ⟨k, m, hk, rfl, rfl, hm⟩ := hrel
        have hmb := decFrom_lt _ _ _ hm
        have hkl : (s.data.toList.take k).length ≤ 10 := by rw [List.length_take]; omega
        have hm10 : m < 10000000000 := Nat.lt_of_lt_of_le hmb (by rw [Nat.zero_add, Nat.one_mul]; exact Nat.le_trans (Nat.pow_le_pow_right (by decide) hkl) (by decide))
        clear hmb hkl
        by_cases hlt : k < s.size
        · have hg2 := ba_get s k hlt
          by_cases hd : 48 ≤ s[k].toNat ∧ s[k].toNat ≤ 57
          · have hst := decFrom_take s.data.toList k 0 m s[k] (s[k].toNat - 48) hm hg2 (by unfold digitVal; rw [if_pos hd])
            have Hst := hide hst
            obtain ⟨hd1, hd2⟩ := hd
            have hd1' : ¬ (s[k].toNat : Int) < 48 := by omega
            have hd2' : ¬ (57 : Int) < (s[k].toNat : Int) := by omega
            clear hst hm hg2
            go_wp2
            go_round
            case rel => exact ⟨k + 1, m * 10 + (s[k].toNat - 48), by omega, by go_num, congrArg (Value.int .i64) (by omega), Hst.out⟩
            case measure => simp [intOf]; omega
          · have hno : decFrom 0 s.data.toList = none := by
              cases hx : decFrom 0 s.data.toList with
              | none => rfl
              | some n =>
                obtain ⟨d, hdv⟩ := digit_of_decFrom _ _ _ hx k _ hg2
                unfold digitVal at hdv
                rw [if_neg hd] at hdv; cases hdv
            have HD := hide (HN.out hno)
            have hdd : (s[k].toNat : Int) < 48 ∨ (57 : Int) < (s[k].toNat : Int) := by omega
            clear hno hm hg2 hd
            rcases hdd with hdd | hdd
            · go_wp2
              go_ret
              exact ⟨retI HD.out.symm, rfl⟩
            · have hd1' : ¬ (s[k].toNat : Int) < 48 := by omega
              go_wp2
              go_ret
              exact ⟨retI HD.out.symm, rfl⟩
        · obtain rfl : k = s.size := by omega
          rw [List.take_of_length_le (by omega)] at hm
          have HD := hide (HS.out m hm)
          clear hm
          go_wp2
          go_ret
          exact ⟨retI HD.out.symm, rfl⟩
end Go.Proofs.YtheddnjhkcpmnaaGreatDoor
