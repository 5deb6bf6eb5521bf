
/- GoodRows: what the Go text returns. No condition. -/
import Derived.Test.YtaebmliolpgmdaaGreatGrP
set_option linter.unusedSimpArgs false
set_option linter.unusedVariables false
set_option maxRecDepth 100000
namespace Go.Proofs.YtaebmliolpgmdaaGreat
open Go.RowKit

set_option maxHeartbeats 800000 in
theorem spec_l5Rows (v : Value) (l : List R3) (many : Int) (w : World) (hr : Rd w w.heap.size v l.length (rcells l)) (hl : l.length ≤ 9223372036854775807) (hm : 1 ≤ many) (hm2 : many ≤ 300) :
    Calls Tryz.prog 79 #[v, .int .i64 many] w fun e w' => e = .returned (.bool (rowsOk many 0 l)) ∧ Below w.heap.size w w' := by
  obtain ⟨A, c, rfl, hn, hc, hcell⟩ := id hr
  have Hr := hide hr; clear hr hcell
  go_enter Tryz.func79, Tryz.ntmps79
  go_wp2
  go_loopw [5, 10] (fun a i wr => ∃ (k : Nat) (x : Int), k ≤ l.length ∧ i = .int .i64 k ∧ a = .int .i64 x ∧ rowsOk many x (l.drop k) = rowsOk many 0 l ∧ Below w.heap.size w wr) (fun _ i _ => l.length - (intOf i).toNat)
  case atStart => exact ⟨0, 0, by omega, rfl, rfl, rfl, Below.refl _ _⟩
  case round =>
    obtain ⟨k, x, hk, rfl, rfl, hok, hb⟩ := hrel
    by_cases hlt : k < l.length
    · obtain ⟨g0, g1, g2⟩ := rcells_get l k hlt
      obtain ⟨b, o, rfl, hbB, s0⟩ := Hr.out.at3 g0
      obtain ⟨_, _, e, _, s1⟩ := Hr.out.at3 g1
      cases e
      obtain ⟨_, _, e, _, s2⟩ := Hr.out.at3 g2
      cases e
      have hs0 := (hb.cell (p := ⟨b, o + k * 3, none⟩) hbB).trans s0
      have hs1 := (hb.cell (p := ⟨b, o + (k * 3 + 1), none⟩) hbB).trans s1
      have hs2 := (hb.cell (p := ⟨b, o + (k * 3 + 2), none⟩) hbB).trans s2
      rw [← Nat.add_assoc] at hs1 hs2
      have hy := fun h => rowsOk_yes (many := many) (a := x) hlt h
      have hn := fun h => rowsOk_no (many := many) (a := x) hlt h
      rw [hok] at hy hn
      have Hy := hide hy; have Hn := hide hn
      have Hb := hide hb; clear hb s0 s1 s2 g0 g1 g2 Hr hok hy hn
      generalize l[k] = r at *
      by_cases g : rowOk x many r
      · have Hy := hide (Hy.out g); clear Hn
        obtain ⟨q1, q2, q3, q4, q5⟩ := g
        go_wp2
        go_roundw
        case rel => exact ⟨k + 1, r.t, by omega, by go_num, rfl, Hy.out.symm, Hb.out.alloc Hb.out.size _⟩
        case measure => simp [intOf]; omega
      · have Hn := hide (Hn.out g); clear Hy
        have Hg := hide g; clear g
        go_wp2
        all_goals first
          | (go_ret; exact ⟨retB (by rw [Hn.out]), Hb.out.alloc Hb.out.size _⟩)
          | (exfalso
             go_light
             have := Hg.out
             unfold rowOk at this
             simp at *
             omega)
    · obtain rfl : k = l.length := by omega
      rw [List.drop_length] at hok
      have Hok := hide hok; clear hok
      go_wp2
      go_ret
      exact ⟨retB (by rw [← Hok.out]; rfl), hb⟩
set_option maxHeartbeats 800000 in
theorem impl_areRows (v : Value) (l : List R3) (many : Int) (w : World) (hr : Rd w w.heap.size v l.length (rcells l)) (hl : l.length ≤ 9223372036854775807) (hm : 1 ≤ many) (hm2 : many ≤ 300) :
    Calls Tryz.prog 54 #[v, .int .i64 many] w fun e w' => e = .returned (.bool (rowsOk many 0 l)) ∧ Below w.heap.size w w' := by
  obtain ⟨A, c, rfl, hn, hc, hcell⟩ := id hr
  have Hr := hide hr; clear hr hcell
  go_enter Tryz.func54, Tryz.ntmps54
  go_wp2
  go_loopw [5, 10] (fun a i wr => ∃ (k : Nat) (x : Int), k ≤ l.length ∧ i = .int .i64 k ∧ a = .int .i64 x ∧ rowsOk many x (l.drop k) = rowsOk many 0 l ∧ Below w.heap.size w wr) (fun _ i _ => l.length - (intOf i).toNat)
  case atStart => exact ⟨0, 0, by omega, rfl, rfl, rfl, Below.refl _ _⟩
  case round =>
    obtain ⟨k, x, hk, rfl, rfl, hok, hb⟩ := hrel
    by_cases hlt : k < l.length
    · obtain ⟨g0, g1, g2⟩ := rcells_get l k hlt
      obtain ⟨b, o, rfl, hbB, s0⟩ := Hr.out.at3 g0
      obtain ⟨_, _, e, _, s1⟩ := Hr.out.at3 g1
      cases e
      obtain ⟨_, _, e, _, s2⟩ := Hr.out.at3 g2
      cases e
      have hs0 := (hb.cell (p := ⟨b, o + k * 3, none⟩) hbB).trans s0
      have hs1 := (hb.cell (p := ⟨b, o + (k * 3 + 1), none⟩) hbB).trans s1
      have hs2 := (hb.cell (p := ⟨b, o + (k * 3 + 2), none⟩) hbB).trans s2
      rw [← Nat.add_assoc] at hs1 hs2
      have hy := fun h => rowsOk_yes (many := many) (a := x) hlt h
      have hn := fun h => rowsOk_no (many := many) (a := x) hlt h
      rw [hok] at hy hn
      have Hy := hide hy; have Hn := hide hn
      have Hb := hide hb; clear hb s0 s1 s2 g0 g1 g2 Hr hok hy hn
      generalize l[k] = r at *
      by_cases g : rowOk x many r
      · have Hy := hide (Hy.out g); clear Hn
        obtain ⟨q1, q2, q3, q4, q5⟩ := g
        go_wp2
        go_roundw
        case rel => exact ⟨k + 1, r.t, by omega, by go_num, rfl, Hy.out.symm, Hb.out.alloc Hb.out.size _⟩
        case measure => simp [intOf]; omega
      · have Hn := hide (Hn.out g); clear Hy
        have Hg := hide g; clear g
        go_wp2
        all_goals first
          | (go_ret; exact ⟨retB (by rw [Hn.out]), Hb.out.alloc Hb.out.size _⟩)
          | (exfalso
             go_light
             have := Hg.out
             unfold rowOk at this
             simp at *
             omega)
    · obtain rfl : k = l.length := by omega
      rw [List.drop_length] at hok
      have Hok := hide hok; clear hok
      go_wp2
      go_ret
      exact ⟨retB (by rw [← Hok.out]; rfl), hb⟩

end Go.Proofs.YtaebmliolpgmdaaGreat
