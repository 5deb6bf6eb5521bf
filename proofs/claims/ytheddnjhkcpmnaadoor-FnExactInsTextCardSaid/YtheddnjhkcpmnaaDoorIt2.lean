
/- InsText on both sides. Conditions: the words and the table lie where the program lays them. -/
import Derived.Test.YtheddnjhkcpmnaaDoorIt
set_option linter.unusedSimpArgs false
set_option linter.unusedVariables false
set_option maxRecDepth 100000
namespace Go.Proofs.YtheddnjhkcpmnaaDoor
open Go.RowKit

def isT (o n : Int) : ByteArray := if insOk ⟨o, n⟩ = true then insS o n else ⟨#[]⟩
theorem isT_yes {o n : Int} (h : insOk ⟨o, n⟩ = true) : isT o n = insS o n := if_pos h
theorem isT_no {o n : Int} (h : insOk ⟨o, n⟩ = false) : isT o n = ⟨#[]⟩ := if_neg (by rw [h]; simp)
set_option maxHeartbeats 1600000 in
theorem impl_InsText (o n : Int) (w : World) (ht : P10 w) (hg : 4 < w.heap.size) (hw : InsWs w) :
    Calls Tryd.prog 14 #[.agg #[.int .i64 o, .int .i64 n]] w fun e w' => e = .returned (.tuple #[.string (isT o n), .bool (insOk ⟨o, n⟩)]) ∧ Below w.heap.size w w' := by
  have hI := fun W => impl_isIns o n W
  have hT := fun W (hW : Below w.heap.size w W) (h : insOk ⟨o, n⟩ = true) => impl_insText o n W h (ht.below hW hg) (Nat.lt_of_lt_of_le hg hW.size) ⟨Nat.lt_of_lt_of_le hw.1 hW.size, fun k hk => (hW.cell (p := ⟨0, k, none⟩) hw.1).trans (hw.2 k hk)⟩
  have hy := @isT_yes o n; have hno := @isT_no o n
  generalize isT o n = S at *
  have Hs := hide (HoI.start w o n)
  cases hi : insOk ⟨o, n⟩
  · simp only [hi] at hI
    have HS := hide (hno hi); have HI := Lib.hid hI
    clear hI hT hy hno hi ht hw
    go_enter Tryd.func14, Tryd.ntmps14
    go_wp2_with (go_at_call 40; refine (HI.out _).mono ?_; rintro e w1 ⟨rfl, hb1⟩; have Ho := hide (Hs.out.below hb1); clear hb1)
    go_ret2
    exact ⟨retSBT ⟨HS.out, rfl⟩, Ho.out.b⟩
  · have hT' := fun W hW => hT W hW hi
    simp only [hi] at hI
    have HS := hide (hy hi); have HI := Lib.hid hI; have HT := Lib.hid hT'
    clear hI hT hT' hy hno hi ht hw
    generalize insS o n = S' at *
    go_enter Tryd.func14, Tryd.ntmps14
    go_wp2_with (first
      | (go_at_call 40; refine (HI.out _).mono ?_; rintro e w1 ⟨rfl, hb1⟩; have Ho := hide (Hs.out.below hb1); have k0 := Ho.out.k.cell 0; have k1 := Ho.out.k.cell 1; have kl := Ho.out.k.lt; clear hb1)
      | (go_at_call 41; refine (HT.out _ Ho.out.b).mono ?_; rintro e w2 ⟨rfl, hb2⟩; have Hb := hide (Ho.out.b.trans (hb2.mono Ho.out.b.size)); clear hb2))
    go_ret2
    exact ⟨retSBT ⟨HS.out, rfl⟩, Hb.out⟩
theorem spec_l5Words (w : World) : Calls Tryd.prog 38 #[] w fun e w' => ∃ g : Nat, e = .returned (.slice (some ⟨g, 0, none⟩) 19 19) ∧ Bk w' g 9 (insW.map Value.string).toArray ∧ Below w.heap.size w w' := by
  go_enter Tryd.func38, Tryd.ntmps38
  go_wp2
  go_ret
  exact ⟨_, rfl, Bk.new _ _ _, (Below.refl _ _).alloc (Nat.le_refl _) _⟩
set_option maxHeartbeats 6400000 in
theorem spec_InsText (o n : Int) (w : World) :
    Calls Tryd.prog 12 #[.agg #[.int .i64 o, .int .i64 n]] w fun e w' => e = .returned (.tuple #[.string (isT o n), .bool (insOk ⟨o, n⟩)]) ∧ Below w.heap.size w w' := by
  have hI := fun W => spec_l5Ins o n W
  have hy := @isT_yes o n; have hno := @isT_no o n
  generalize isT o n = S at *
  have Hs := hide (HoI.start w o n)
  cases hi : insOk ⟨o, n⟩
  · simp only [hi] at hI
    have HS := hide (hno hi); have HI := Lib.hid hI
    clear hI hy hno hi
    go_enter Tryd.func12, Tryd.ntmps12
    go_wp2_with (go_at_call 36; refine (HI.out _).mono ?_; rintro e w1 ⟨rfl, hb1⟩; have Ho := hide (Hs.out.below hb1); clear hb1)
    go_ret2
    exact ⟨retSBT ⟨HS.out, rfl⟩, Ho.out.b⟩
  have ho := insOk_bd hi
  dsimp only at ho
  have hn := insOk_small hi
  have hL := fun W => spec_l2Int n hn.1 hn.2 W
  obtain ⟨k, rfl⟩ := Int.eq_ofNat_of_zero_le (show 0 ≤ o by omega)
  have hk : k < insW.length := by rw [insW_length]; omega
  have hN := fun W => spec_l5HasN (k : Int) W
  have hsz := insW_size _ (List.getElem_mem hk)
  have hS := hy hi
  have hSy := fun h => @insS_yes k n h hk
  have hSn := fun h => @insS_no k n h hk
  have hTl := intT_len (n := n) (by omega) (by omega)
  rw [← mk_sizeT] at hTl
  have hBk : ∀ W q, Bk W q 9 (insW.map Value.string).toArray → W.cell? ⟨q, k, none⟩ = some (.string insW[k]) := fun W q h => (h.cell k).trans (by simp [hk])
  generalize (⟨(intT n).toArray⟩ : ByteArray) = T at *
  generalize insW[k] = B at *
  have s1 : ¬ 9223372036854775807 < B.size + 1 := by omega
  have s2 : ¬ 9223372036854775807 < B.size + 1 + T.size := by omega
  have hk1 : (k : Int) < 19 := by omega
  have hk0 : (0 : Int) ≤ (k : Int) := by omega
  simp only [hi] at hI
  have HI := Lib.hid hI; have HL := Lib.hid hL; have HBk := Lib.hid hBk
  have SM : ∀ w', HoI w k n w' → w'.cell? ⟨w.heap.size, 0, none⟩ = some (.int .i64 k) ∧ w'.cell? ⟨w.heap.size, 1, none⟩ = some (.int .i64 n) ∧ HoI w k n w' := fun W h => ⟨h.k.cell 0, h.k.cell 1, h⟩
  have HSM := Lib.hid SM
  clear hI hL hBk hy hno hi ho hn SM
  cases hh : hasNB (k : Int)
  · have HS := hide (hS.trans (hSn hh))
    simp only [hh] at hN
    have HN := Lib.hid hN
    clear hN hS hSy hSn hh HL
    go_enter Tryd.func12, Tryd.ntmps12
    go_wp2_with (first
      | (go_at_call 36; refine (HI.out _).mono ?_; rintro e w1 ⟨rfl, hb1⟩; have Ho := hide (Hs.out.below hb1); have k0 := Ho.out.k.cell 0; have kl := Ho.out.k.lt; clear hb1)
      | (go_at_call 37; refine (HN.out _).mono ?_; rintro e w2 ⟨rfl, rfl⟩))
    have Ho := hide Ho.out.drew
    go_region_with (go_at_call 38; refine (spec_l5Words _).mono ?_; rintro e w3 ⟨q, rfl, hq, hb1⟩; have Ho := hide (Ho.out.below hb1); have k0 := Ho.out.k.cell 0; have c3 := HBk.out _ _ hq; have cl := hq.lt; clear hq hb1)
    all_goals
      go_wp2
      go_ret2
      exact ⟨retSBT ⟨HS.out, rfl⟩, Ho.out.b⟩
  · have HS := hide (hS.trans (hSy hh))
    simp only [hh] at hN
    have HN := Lib.hid hN
    clear hN hS hSy hSn hh
    go_enter Tryd.func12, Tryd.ntmps12
    go_wp2_with (first
      | (go_at_call 36; refine (HI.out _).mono ?_; rintro e w1 ⟨rfl, hb1⟩; have Ho := hide (Hs.out.below hb1); have k0 := Ho.out.k.cell 0; have kl := Ho.out.k.lt; clear hb1)
      | (go_at_call 37; refine (HN.out _).mono ?_; rintro e w2 ⟨rfl, rfl⟩))
    have k1 := Ho.out.k.cell 1
    have Ho := hide Ho.out.drew
    go_region_with (first
        | (go_at_call 38; refine (spec_l5Words _).mono ?_; rintro e w3 ⟨q, rfl, hq, hb1⟩; have Ho := hide (Ho.out.below hb1); have k0 := Ho.out.k.cell 0; have k1 := Ho.out.k.cell 1; have c3 := HBk.out _ _ hq; have cl := hq.lt; have Hq := hide hq; clear hq hb1)
        | (go_at_call 39; refine (HL.out _).mono ?_; rintro e w4 ⟨rfl, hb1⟩; (try have Hq := hide (Hq.out.below hb1)); (try have c3 := HBk.out _ _ Hq.out); (try have cl := Hq.out.lt); have Ho := hide (Ho.out.below hb1); have k0 := Ho.out.k.cell 0; have k1 := Ho.out.k.cell 1; clear hb1))
    all_goals
      go_wp2
      go_ret2
      exact ⟨retSBT ⟨HS.out, rfl⟩, Ho.out.b⟩
end Go.Proofs.YtheddnjhkcpmnaaDoor
