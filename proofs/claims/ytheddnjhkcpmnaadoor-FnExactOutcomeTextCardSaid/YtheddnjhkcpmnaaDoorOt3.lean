
/- OutcomeText on both sides: what the Go text returns. Condition: the table lies where the program lays it. -/
import Derived.Test.YtheddnjhkcpmnaaDoorOt1
import Derived.Test.YtheddnjhkcpmnaaDoorOt2
import Derived.Test.YtheddnjhkcpmnaaDoorEx2
set_option linter.unusedSimpArgs false
set_option linter.unusedVariables false
set_option maxRecDepth 100000
namespace Go.Proofs.YtheddnjhkcpmnaaDoor
open Go.RowKit Go.Shelf

def ocOk (o : Oc) : Bool := inB o.code 1 5 && (decide (o.trace.length ≤ 600) && (allIn o.trace (-2147483648) 2147483647 && (smallB o.value && smallB o.used)))
def ocS (o : Oc) : ByteArray := if ocOk o = true then ⟨(ocT o).toArray⟩ else ⟨#[]⟩
theorem oc_no {o : Oc} (h : ocOk o = false) : ocS o = ⟨#[]⟩ ∧ ocOk o = false := ⟨if_neg (by rw [h]; simp), h⟩
theorem oc_yes {o : Oc} (h : ocOk o = true) : ocS o = ⟨(ocT o).toArray⟩ ∧ ocOk o = true := ⟨if_pos h, h⟩
theorem small_of {n : Int} (h : smallB n = true) : small n := inB_iff.1 h
theorem smalls_of {l : List Int} (h : allIn l (-2147483648) 2147483647 = true) : ∀ n ∈ l, small n := by
  simp only [allIn, List.all_eq_true, inB_iff] at h; exact h
theorem impl_OutcomeText1 (n : Int) (w : World) : Calls Tryd.prog 33 #[.int .i64 n] w fun e w' => e = .returned (.bool (!inB n (-2147483648) 2147483647)) ∧ w = w' := by
  go_enter Tryd.func33, Tryd.ntmps33
  go_wp2_with (go_at_call 31; refine (impl_isSmallB n _).mono ?_; rintro e w' ⟨rfl, rfl⟩)
  go_ret
  exact ⟨rfl, rfl⟩
set_option maxHeartbeats 3200000 in
theorem spec_OutcomeText (o : Oc) (s : Value) (w : World) (hr : OcAt w w.heap.size o s) :
    Calls Tryd.prog 8 #[o.agg s] w fun e w' => e = .returned (.tuple #[.string (ocS o), .bool (ocOk o)]) ∧ Below w.heap.size w w' := by
  have hno := @oc_no o; have hyes := @oc_yes o
  have hd : ocOk o = (inB o.code 1 5 && (decide (o.trace.length ≤ 600) && (allIn o.trace (-2147483648) 2147483647 && (smallB o.value && smallB o.used)))) := rfl
  have hT := fun W hW h1 h2 h3 h4 h5 => spec_l4Text o s W hW h1 h2 h3 h4 h5
  have Hs := hide (HoO.start w o s)
  have hlong := hr.long
  unfold OcAt at hr hT
  unfold Oc.agg
  unfold Oc.agg at hT
  generalize ocS o = S at *
  generalize ocOk o = R at *
  generalize ocT o = RT at *
  obtain ⟨code, value, tr, used⟩ := o
  dsimp only at *
  obtain ⟨A, c, rfl, hn, hcp, hcell⟩ := id hr
  have Hr := hide (hr.go Hs.out.b (Nat.le_refl _) Hs.out.b.size)
  have HT := Lib.hid hT
  clear hr hcell hT hn hcp
  cases h1 : inB code 1 5
  · have HS := hide (hno (by rw [hd, h1]; rfl)); clear hno hyes hd HT
    go_enter Tryd.func8, Tryd.ntmps8
    go_wp2_with (go_at_call 25; refine (spec_l1In _ _ _ _).mono ?_; rintro e w' ⟨rfl, rfl⟩)
    go_ret2
    exact ⟨retSBT HS.out, Hs.out.b⟩
  by_cases h2 : 600 < tr.length
  · have HS := hide (hno (by rw [hd, decide_eq_false (by omega)]; simp)); clear hno hyes hd HT
    have h2' : (600 : Int) < tr.length := by omega
    go_enter Tryd.func8, Tryd.ntmps8
    go_wp2_with (go_at_call 25; refine (spec_l1In _ _ _ _).mono ?_; rintro e w' ⟨rfl, rfl⟩)
    go_ret2
    exact ⟨retSBT HS.out, Hs.out.b⟩
  have h2' : ¬ (600 : Int) < tr.length := by omega
  cases h3 : allIn tr (-2147483648) 2147483647
  · have HS := hide (hno (by rw [hd, h3]; simp)); clear hno hyes hd HT
    go_enter Tryd.func8, Tryd.ntmps8
    go_wp2_with (first
      | (go_at_call 25; refine (spec_l1In _ _ _ _).mono ?_; rintro e w' ⟨rfl, rfl⟩)
      | (go_at_call 26; refine (spec_l1All _ tr _ _ _ _ Hr.out).mono ?_; rintro e w' ⟨rfl, rfl⟩))
    go_ret2
    exact ⟨retSBT HS.out, Hs.out.b⟩
  cases h4 : smallB value
  · have HS := hide (hno (by rw [hd, h4]; simp)); clear hno hyes hd HT
    go_enter Tryd.func8, Tryd.ntmps8
    go_wp2_with (first
      | (go_at_call 25; refine (spec_l1In _ _ _ _).mono ?_; rintro e w' ⟨rfl, rfl⟩)
      | (go_at_call 26; refine (spec_l1All _ tr _ _ _ _ Hr.out).mono ?_; rintro e w' ⟨rfl, rfl⟩)
      | (go_at_call 27; refine (spec_l2Bound _ _).mono ?_; rintro e w' ⟨rfl, rfl⟩))
    go_ret2
    exact ⟨retSBT HS.out, Hs.out.b⟩
  cases h5 : smallB used
  · have HS := hide (hno (by rw [hd, h5]; simp)); clear hno hyes hd HT
    go_enter Tryd.func8, Tryd.ntmps8
    go_wp2_with (first
      | (go_at_call 25; refine (spec_l1In _ _ _ _).mono ?_; rintro e w' ⟨rfl, rfl⟩)
      | (go_at_call 26; refine (spec_l1All _ tr _ _ _ _ Hr.out).mono ?_; rintro e w' ⟨rfl, rfl⟩)
      | (go_at_call 27; refine (spec_l2Bound _ _).mono ?_; rintro e w' ⟨rfl, rfl⟩))
    go_ret2
    exact ⟨retSBT HS.out, Hs.out.b⟩
  · have HS := hide (hyes (by rw [hd, h1, h3, h4, h5, decide_eq_true (by omega)]; rfl)); clear hno hyes hd
    have g1 := inB_iff.1 h1
    have HC := hide (HT.out _ Hr.out g1.1 g1.2 (small_of h4) (smalls_of h3) (by omega))
    clear HT g1
    go_enter Tryd.func8, Tryd.ntmps8
    go_wp2_with (first
      | (go_at_call 25; refine (spec_l1In _ _ _ _).mono ?_; rintro e w' ⟨rfl, rfl⟩)
      | (go_at_call 26; refine (spec_l1All _ tr _ _ _ _ Hr.out).mono ?_; rintro e w' ⟨rfl, rfl⟩)
      | (go_at_call 27; refine (spec_l2Bound _ _).mono ?_; rintro e w' ⟨rfl, rfl⟩)
      | (go_at_call 28; refine (HC.out).mono ?_; rintro e w1 ⟨rfl, hb1⟩))
    go_ret2
    exact ⟨retSBT HS.out, Hs.out.b.trans (hb1.mono Hs.out.b.size)⟩
set_option maxHeartbeats 3200000 in
theorem impl_OutcomeText (o : Oc) (s : Value) (w : World) (hr : OcAt w w.heap.size o s) (hp : P10 w) (hg : 4 < w.heap.size) :
    Calls Tryd.prog 10 #[o.agg s] w fun e w' => e = .returned (.tuple #[.string (ocS o), .bool (ocOk o)]) ∧ Below w.heap.size w w' := by
  have hno := @oc_no o; have hyes := @oc_yes o
  have hd : ocOk o = (inB o.code 1 5 && (decide (o.trace.length ≤ 600) && (allIn o.trace (-2147483648) 2147483647 && (smallB o.value && smallB o.used)))) := rfl
  have hT := fun W hW h1 h2 h3 h4 h5 h6 => impl_outcomeText o s W hW h1 h2 h3 h4 h5 (hp.below' h6 hg) (Nat.lt_of_lt_of_le hg h6.size)
  have Hs := hide (HoO.start w o s)
  have hlong := hr.long
  unfold OcAt at hr hT
  unfold Oc.agg
  unfold Oc.agg at hT
  generalize ocS o = S at *
  generalize ocOk o = R at *
  generalize ocT o = RT at *
  obtain ⟨code, value, tr, used⟩ := o
  dsimp only at *
  obtain ⟨A, c, rfl, hn, hcp, hcell⟩ := id hr
  have hany := anyInt (.slice A tr.length c) tr (fun n => !inB n (-2147483648) 2147483647) 33 (enters_of Tryd.func33 (by kernel_rfl) rfl) _ (hr.go Hs.out.b (Nat.le_refl _) Hs.out.b.size) (fun n W => impl_OutcomeText1 n W)
  rw [any_not] at hany
  have Hany := hide hany
  have Hr := hide (hr.here (w' := w) (Below.refl _ _))
  have HT := Lib.hid hT
  clear hr hcell hT hn hcp hp hg hany
  cases h1 : inB code 1 5
  · have HS := hide (hno (by rw [hd, h1]; rfl)); clear hno hyes hd HT Hany
    go_enter Tryd.func10, Tryd.ntmps10
    go_wp2_with (go_at_call 30; refine (impl_within _ _ _ _).mono ?_; rintro e w' ⟨rfl, rfl⟩)
    go_ret2
    exact ⟨retSBT HS.out, Hs.out.b⟩
  by_cases h2 : 600 < tr.length
  · have HS := hide (hno (by rw [hd, decide_eq_false (by omega)]; simp)); clear hno hyes hd HT Hany
    have h2' : (600 : Int) < tr.length := by omega
    go_enter Tryd.func10, Tryd.ntmps10
    go_wp2_with (go_at_call 30; refine (impl_within _ _ _ _).mono ?_; rintro e w' ⟨rfl, rfl⟩)
    go_ret2
    exact ⟨retSBT HS.out, Hs.out.b⟩
  have h2' : ¬ (600 : Int) < tr.length := by omega
  cases h4 : smallB value
  · have HS := hide (hno (by rw [hd, h4]; simp)); clear hno hyes hd HT Hany
    go_enter Tryd.func10, Tryd.ntmps10
    go_wp2_with (first
      | (go_at_call 30; refine (impl_within _ _ _ _).mono ?_; rintro e w' ⟨rfl, rfl⟩)
      | (go_at_call 31; refine (impl_isSmallB _ _).mono ?_; rintro e w' ⟨rfl, rfl⟩))
    go_ret2
    exact ⟨retSBT HS.out, Hs.out.b⟩
  cases h5 : smallB used
  · have HS := hide (hno (by rw [hd, h5]; simp)); clear hno hyes hd HT Hany
    go_enter Tryd.func10, Tryd.ntmps10
    go_wp2_with (first
      | (go_at_call 30; refine (impl_within _ _ _ _).mono ?_; rintro e w' ⟨rfl, rfl⟩)
      | (go_at_call 31; refine (impl_isSmallB _ _).mono ?_; rintro e w' ⟨rfl, rfl⟩))
    go_ret2
    exact ⟨retSBT HS.out, Hs.out.b⟩
  cases h3 : allIn tr (-2147483648) 2147483647
  · have HS := hide (hno (by rw [hd, h3]; simp)); clear hno hyes hd HT
    rw [h3] at Hany
    go_enter Tryd.func10, Tryd.ntmps10
    go_wp2_with (first
      | (go_at_call 30; refine (impl_within _ _ _ _).mono ?_; rintro e w' ⟨rfl, rfl⟩)
      | (go_at_call 31; refine (impl_isSmallB _ _).mono ?_; rintro e w' ⟨rfl, rfl⟩)
      | (go_at_call 32; refine (Hany.out).mono ?_; rintro e w1 ⟨rfl, hb1⟩))
    go_ret2
    exact ⟨retSBT HS.out, Hs.out.b.trans (hb1.mono Hs.out.b.size)⟩
  · have HS := hide (hyes (by rw [hd, h1, h3, h4, h5, decide_eq_true (by omega)]; rfl)); clear hno hyes hd
    have g1 := inB_iff.1 h1
    have HC := hide (fun W (hW : Below w.heap.size w W) => HT.out W (Hr.out.go hW (Nat.le_refl _) hW.size) g1.1 g1.2 (small_of h4) (smalls_of h3) (by omega) hW)
    rw [h3] at Hany
    clear HT g1
    go_enter Tryd.func10, Tryd.ntmps10
    go_wp2_with (first
      | (go_at_call 30; refine (impl_within _ _ _ _).mono ?_; rintro e w' ⟨rfl, rfl⟩)
      | (go_at_call 31; refine (impl_isSmallB _ _).mono ?_; rintro e w' ⟨rfl, rfl⟩)
      | (go_at_call 32; refine (Hany.out).mono ?_; rintro e w1 ⟨rfl, hb1⟩; have Ho := hide (Hs.out.below hb1); obtain ⟨k0, k1, k2, k3⟩ := Ho.out.k.four; have kl := Ho.out.k.lt; clear hb1)
      | (go_at_call 34; refine (HC.out _ Ho.out.b).mono ?_; rintro e w2 ⟨rfl, hb2⟩))
    go_ret2
    exact ⟨retSBT HS.out, Ho.out.b.trans (hb2.mono Ho.out.b.size)⟩
end Go.Proofs.YtheddnjhkcpmnaaDoor
