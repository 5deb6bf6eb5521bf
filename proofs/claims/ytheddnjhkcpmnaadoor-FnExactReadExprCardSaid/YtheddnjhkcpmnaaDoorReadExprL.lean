
/- FnExactReadExpr: the call returns true. Conditions: the library's variables hold something of their kinds; the words and the table lie where the program lays them. -/
import Derived.Test.YtheddnjhkcpmnaaDoorRxI
import Derived.Test.YtheddnjhkcpmnaaDoorTokM
set_option linter.unusedSimpArgs false
set_option linter.unusedVariables false
set_option maxRecDepth 100000
namespace Go.Proofs.YtheddnjhkcpmnaaDoor
open Go.RowKit Go.Lib

theorem MaxL.below {w W : World} (h : MaxL w) (hg : 5 < w.heap.size) (hb : Below w.heap.size w W) : MaxL W := by
  obtain ⟨m, hm⟩ := h
  exact ⟨m, (hb.cell (p := ⟨5, 0, none⟩) hg).trans hm⟩
set_option maxHeartbeats 1600000 in
theorem law_FnExactReadExpr (w : World) (s : ByteArray) (hs : s.size ≤ 9223372036854775807) (hm : MaxL w) (hgm : 5 < w.heap.size) (hp : P10 w) (hg : 4 < w.heap.size) (hw : ExWs w) (he : ErrV w) :
    Calls Tryd.prog 6 #[.string s] w fun e w' => e = .returned (.bool true) ∧ Below w.heap.size w w' := by
  have hlen := rdL_len s.data.toList
  have hS := fun W => spec_ReadExpr s hs W
  have hI := fun W (hW : Below w.heap.size w W) => impl_ReadExpr s hs W (hm.below hgm hW) (hp.belowE hW hg) (Nat.lt_of_lt_of_le hg hW.size) (hw.below hW) (he.below hW)
  unfold ReadP at hS hI
  generalize rdL s.data.toList = L at *
  generalize rdB s.data.toList = ok at *
  have HS := Lib.hid hS; have HI := Lib.hid hI; clear hS hI hm hp hw he
  by_cases hb : 1048576 < s.size
  · have hbI : (1048576 : Int) < s.size := by omega
    go_enter Tryd.func6, Tryd.ntmps6
    go_wp2
    go_ret
    exact ⟨rfl, Below.refl _ _⟩
  have hbI : ¬ (1048576 : Int) < s.size := by omega
  go_enter Tryd.func6, Tryd.ntmps6
  go_wp2_with fail
  refine (HS.out _).mono ?_
  rintro e w2 ⟨u, rfl, hown2, hb2⟩
  have Hu2 := hide (Rd.of_own hown2); have Hb2 := hide hb2; clear hb2 hown2
  go_wp2_with fail
  refine (HI.out _ Hb2.out).mono ?_
  rintro e w4 ⟨g, rfl, hown4, hb4⟩
  have Hg4 := hide hown4; have Hb24 := hide hb4; have Hb4 := hide (Hb2.out.trans (hb4.mono Hb2.out.size)); have Z4 := hide hb4.size; clear hown4 hb4
  go_wp2_with fail
  refine (eqTokS _ _ L _ (Rd.of_own Hg4.out) (Hu2.out.here Hb24.out) (by omega)).mono ?_
  rintro e w9 ⟨rfl, hb9⟩
  have Hg9 := hide (own_keep Hg4.out hb9); have Hb29 := hide (Hb24.out.trans (hb9.mono Hb24.out.size)); have Hb9 := hide (Hb4.out.trans (hb9.mono Hb4.out.size)); have Z9 := hide hb9.size; clear hb9
  go_wp2_with fail
  refine (markTokS _ L 1 _ _ Hg9.out (by omega) (by omega)).mono ?_
  rintro e w10 ⟨rfl, hown10, hg10⟩
  have hgl := Hg9.out.lt
  have z9 : w2.heap.size ≤ w9.heap.size := by have := Z4.out; have := Z9.out; omega
  have hb10 : Below w2.heap.size w9 w10 := (Below.refl _ _).grown hg10 (by omega) (fun k hk => (hgl k hk).1)
  have Hg10 := hide hown10; have Hb2a := hide (Hb29.out.trans hb10); have Hb10 := hide (Hb9.out.trans (hb10.mono Hb2.out.size)); clear hown10 hg10 hgl hb10 z9
  go_wp2_with fail
  refine (heldTokS _ L.length 1 _ _ (Rd.of_own Hg10.out) (by omega) (by omega)).mono ?_
  rintro e w11 ⟨rfl, rfl⟩
  go_wp2_with fail
  refine (HI.out _ Hb10.out).mono ?_
  rintro e w13 ⟨h0, rfl, hown13, hb13⟩
  have Hh13 := hide hown13; have Hg13 := hide (own_keep Hg10.out hb13); have Hb2d := hide (Hb2a.out.trans (hb13.mono Hb2a.out.size)); have Hb13 := hide (Hb10.out.trans (hb13.mono Hb10.out.size)); clear hown13 hb13
  go_wp2_with fail
  refine (eqTokS _ _ L _ (Rd.of_own Hh13.out) (Hu2.out.here Hb2d.out) (by omega)).mono ?_
  rintro e w14 ⟨rfl, hb14⟩
  have Hg14 := hide (own_keep Hg13.out hb14); have Hb14 := hide (Hb13.out.trans (hb14.mono Hb13.out.size)); clear hb14
  go_wp2_with fail
  refine (heldTokS _ L.length 1 _ _ (Rd.of_own Hg14.out) (by omega) (by omega)).mono ?_
  rintro e w15 ⟨rfl, rfl⟩
  go_wp2_with fail
  go_ret
  exact ⟨rfl, Hb14.out⟩
end Go.Proofs.YtheddnjhkcpmnaaDoor
