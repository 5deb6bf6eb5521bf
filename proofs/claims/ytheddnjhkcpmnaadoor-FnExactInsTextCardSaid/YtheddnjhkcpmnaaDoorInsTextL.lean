
/- FnExactInsText: the call returns true. Conditions: the words and the table lie where the program lays them. -/
import Derived.Test.YtheddnjhkcpmnaaDoorIt2
import Derived.Test.YtheddnjhkcpmnaaDoorOpen2
import Derived.Test.YtheddnjhkcpmnaaDoorInsT
set_option linter.unusedSimpArgs false
set_option linter.unusedVariables false
set_option maxRecDepth 100000
namespace Go.Proofs.YtheddnjhkcpmnaaDoor
open Go.RowKit

set_option maxHeartbeats 3200000 in
theorem law_FnExactInsText (w : World) (v : Value) (h : IsPair w v) (ht : P10 w) (hg : 4 < w.heap.size) (hw : InsWs w) :
    Calls Tryd.prog 4 #[v] w fun e w' => e = .returned (.bool true) ∧ Below w.heap.size w w' := by
  obtain ⟨⟨o, n⟩, rfl, hk⟩ := h
  try dsimp only
  have hI := fun W (hW : Below w.heap.size w W) => impl_InsText o n W (ht.below hW hg) (Nat.lt_of_lt_of_le hg hW.size) ⟨Nat.lt_of_lt_of_le hw.1 hW.size, fun k hk => (hW.cell (p := ⟨0, k, none⟩) hw.1).trans (hw.2 k hk)⟩
  have hS := fun W => spec_InsText o n W
  generalize isT o n = S at *
  generalize insOk ⟨o, n⟩ = B at *
  have Hb := hide ((Below.refl w.heap.size w).alloc (Nat.le_refl _) (.cells #[.int .i64 o, .int .i64 n] 33))
  have Hk := hide (Bk.new w 33 #[.int .i64 o, .int .i64 n])
  have HI := Lib.hid hI; have HS := Lib.hid hS
  clear hI hS ht hw hk
  go_enter Tryd.func4, Tryd.ntmps4
  go_wp2_with (first
    | (go_at_call 13; refine (toIns o n _).mono ?_; rintro e w1 ⟨rfl, hb⟩; have Hb := hide (Hb.out.trans (hb.mono Hb.out.size)); have Hk := hide (Hk.out.below hb); have k0 := Hk.out.cell 0; have k1 := Hk.out.cell 1; have kl := Hk.out.lt; clear hb)
    | (go_at_call 12; refine (HS.out _).mono ?_; rintro e w2 ⟨rfl, hb⟩; have Hb := hide (Hb.out.trans (hb.mono Hb.out.size)); have Hk := hide (Hk.out.below hb); have k0 := Hk.out.cell 0; have k1 := Hk.out.cell 1; have kl := Hk.out.lt; clear hb)
    | (go_at_call 14; refine (HI.out _ Hb.out).mono ?_; rintro e w3 ⟨rfl, hb⟩; have Hb := hide (Hb.out.trans (hb.mono Hb.out.size)); clear hb))
  go_ret
  exact ⟨rfl, Hb.out⟩
end Go.Proofs.YtheddnjhkcpmnaaDoor
