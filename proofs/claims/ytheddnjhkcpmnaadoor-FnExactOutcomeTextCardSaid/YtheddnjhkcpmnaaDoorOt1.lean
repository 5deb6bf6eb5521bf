
/- spec.l4Text: what the Go text returns. Conditions: the outcome is one that OutcomeText writes. -/
import Derived.Test.YtheddnjhkcpmnaaDoorOtP
import Derived.Deep.RegionWith
import Derived.Deep.Cut
import Derived.Deep.CutRange
set_option linter.unusedSimpArgs false
set_option linter.unusedVariables false
set_option maxRecDepth 100000
namespace Go.Proofs.YtheddnjhkcpmnaaDoor
open Go.RowKit

theorem ocW_cell {k : Nat} (hk : k < 6) : ([.string ⟨#[]⟩, .string ⟨#[100, 111, 110, 101]⟩, .string ⟨#[112, 97, 110, 105, 99]⟩, .string ⟨#[101, 120, 105, 116]⟩, .string ⟨#[100, 101, 101, 112]⟩, .string ⟨#[102, 117, 101, 108]⟩] : List Value)[k]? = some (.string ⟨(ocW.getD k []).toArray⟩) := by
  obtain rfl | rfl | rfl | rfl | rfl | rfl : k = 0 ∨ k = 1 ∨ k = 2 ∨ k = 3 ∨ k = 4 ∨ k = 5 := by omega
  all_goals rfl
set_option maxHeartbeats 3200000 in
theorem spec_l4Text (o : Oc) (s : Value) (w : World) (hr : OcAt w w.heap.size o s) (hc1 : 1 ≤ o.code) (hc2 : o.code ≤ 5) (hv : small o.value) (ht : ∀ n ∈ o.trace, small n) (hl : o.trace.length ≤ 600) :
    Calls Tryd.prog 28 #[o.agg s] w fun e w' => e = .returned (.string ⟨(ocT o).toArray⟩) ∧ Below w.heap.size w w' := by
  have htl := ocTr_len ht
  have hHd := ocHd_len hv
  have hL := fun W => spec_l2Int o.value hv.1 hv.2 W
  have hL2 := fun n (hn : small n) W => spec_l2Int n hn.1 hn.2 W
  have hT : ocT o = ocHd o ++ ocTr o.trace := rfl
  have hvl := intT_len (n := o.value) (by have := hv.1; omega) (by have := hv.2; omega)
  have hH : (⟨(ocW.getD o.code.toNat []).toArray⟩ : ByteArray) ++ ⟨#[32]⟩ ++ ⟨(intT o.value).toArray⟩ ++ ⟨#[58]⟩ = ⟨(ocHd o).toArray⟩ := by
    have e1 : (⟨#[32]⟩ : ByteArray) = ⟨[(32 : UInt8)].toArray⟩ := rfl
    have e2 : (⟨#[58]⟩ : ByteArray) = ⟨[(58 : UInt8)].toArray⟩ := rfl
    rw [e1, e2, cat_mkT, cat_mkT, cat_mkT]; rfl
  unfold OcAt at hr
  unfold Oc.agg
  have Hs := hide (HoO.start w o s)
  generalize ocT o = RT at *
  generalize ocHd o = HD at *
  obtain ⟨code, value, tr, used⟩ := o
  dsimp only at *
  obtain ⟨k, rfl⟩ := Int.eq_ofNat_of_zero_le (show 0 ≤ code by omega)
  have hk : k < 6 := by omega
  rw [Int.toNat_natCast] at hH
  have hcw := ocW_cell hk
  have hwl := ocW_len k
  rw [← mk_sizeT] at hwl hvl
  obtain ⟨A, c, rfl, hn, hcp, hcell⟩ := id hr
  have Hr := hide hr; have Htr := Lib.hid ht; have HL := Lib.hid hL; have HL2 := Lib.hid hL2; have HT := hide hT
  clear hr hcell ht hL hL2 hT hc1 hc2 hv
  generalize (⟨(ocW.getD k []).toArray⟩ : ByteArray) = B at *
  generalize (⟨(intT value).toArray⟩ : ByteArray) = T at *
  have HH := hide hH; clear hH
  obtain ⟨hcl, hcg⟩ := List.getElem?_eq_some_iff.1 hcw
  have s1 : ¬ 9223372036854775807 < B.size + 1 := by omega
  have s2 : ¬ 9223372036854775807 < B.size + 1 + T.size := by omega
  have s3 : ¬ 9223372036854775807 < B.size + 1 + T.size + 1 := by omega
  have hk1 : (k : Int) < 6 := by omega
  have hk0 : (0 : Int) ≤ (k : Int) := by omega
  have hTc : ∀ W : World, Bk W (w.heap.size + 1) 9 #[.string ⟨#[]⟩, .string ⟨#[100, 111, 110, 101]⟩, .string ⟨#[112, 97, 110, 105, 99]⟩, .string ⟨#[101, 120, 105, 116]⟩, .string ⟨#[100, 101, 101, 112]⟩, .string ⟨#[102, 117, 101, 108]⟩] → W.cell? ⟨w.heap.size + 1, k, none⟩ = some (.string B) := fun W h => (h.cell k).trans (by simpa using hcw)
  clear hcw
  have HTc := Lib.hid hTc
  clear hTc
  have Ho := hide Hs.out.drew
  have Ho2 := hide ((Hs.out.alloc (.cells #[.string ⟨#[]⟩, .string ⟨#[100, 111, 110, 101]⟩, .string ⟨#[112, 97, 110, 105, 99]⟩, .string ⟨#[101, 120, 105, 116]⟩, .string ⟨#[100, 101, 101, 112]⟩, .string ⟨#[102, 117, 101, 108]⟩] 9)).drew)
  have hB2 := (Bk.new (w.alloc (.cells #[.int .i64 k, .int .i64 value, .slice A tr.length c, .int .i64 used] 28)) 9 #[.string ⟨#[]⟩, .string ⟨#[100, 111, 110, 101]⟩, .string ⟨#[112, 97, 110, 105, 99]⟩, .string ⟨#[101, 120, 105, 116]⟩, .string ⟨#[100, 101, 101, 112]⟩, .string ⟨#[102, 117, 101, 108]⟩]).drew
  rw [World.size_alloc] at hB2
  have HB2 := hide hB2
  clear hB2
  go_enter Tryd.func28, Tryd.ntmps28
  go_upto_region 1 with fail
  go_cut [3] from 6 to 16 (fun q wx => q = .string ⟨HD.toArray⟩ ∧ HoO w ⟨k, value, tr, used⟩ (.slice A tr.length c) wx)
  case first =>
    go_region_with (go_at_call 39; refine (HL.out _).mono ?_; rintro e w4 ⟨rfl, hb1⟩; (try have c3 := HTc.out _ (HB2.out.below hb1)); (have Ho4 : HoO w ⟨k, value, tr, used⟩ (.slice A tr.length c) w4 := by first | with_reducible exact Ho.out.below hb1 | with_reducible exact Ho2.out.below hb1); have k0 := Ho4.k.cell 0; have kl : w.heap.size < w4.heap.size := Ho4.k.lt; have Ho4 := hide Ho4; clear hb1)
    all_goals
      go_wp2_with fail
      go_meet
      case rel => first
        | exact ⟨congrArg Value.string HH.out, Ho4.out⟩
        | exact ⟨congrArg Value.string HH.out, Ho4.out.alloc _⟩
  case rest =>
    obtain ⟨rfl, hO⟩ := hcut
    have k2 := hO.k.cell 2
    have kl : w.heap.size < _ := hO.k.lt
    have Hb := hide hO.b
    clear hO Ho Ho2 HB2 HTc HH s1 s2 s3 hcg hcl
    have HTe := hide (show HD ++ ocTr tr = RT from HT.out.symm)
    go_wp2_with fail
    go_loopw [3, 20] (fun s i wr => ∃ (j : Nat) (acc : List UInt8), j ≤ tr.length ∧ i = .int .i64 j ∧ s = .string ⟨acc.toArray⟩ ∧ acc ++ ocTr (tr.drop j) = RT ∧ Below w.heap.size w wr) (fun _ i _ => tr.length - (intOf i).toNat)
    case atStart => exact ⟨0, HD, by omega, rfl, rfl, HTe.out, Hb.out⟩
    case round =>
      obtain ⟨j, acc, hj, rfl, rfl, hacc, hb⟩ := hrel
      have hRT : RT.length ≤ 7218 := by have := congrArg List.length HT.out; rw [List.length_append] at this; omega
      have hal : acc.length ≤ 7218 := by have := congrArg List.length hacc; rw [List.length_append] at this; omega
      by_cases hlt : j < tr.length
      · rw [ocTr_step hlt] at hacc
        obtain ⟨b, o, rfl, hbB, hs⟩ := Hr.out.at_ (j := j) (by rw [icells_length]; exact hlt)
        rw [icells_get _ _ hlt] at hs
        have q0 := (hb.cell (p := ⟨b, o + j, none⟩) hbB).trans hs
        have hbw : b < wr.heap.size := Nat.lt_of_lt_of_le hbB hb.size
        have hn := Htr.out _ (List.getElem_mem hlt)
        have hTl := intT_len (n := tr[j]) (by have := hn.1; omega) (by have := hn.2; omega)
        have hc := fun W => HL2.out _ hn W
        rw [← mk_sizeT] at hTl
        generalize tr[j] = n at *
        have hcat : (⟨acc.toArray⟩ : ByteArray) ++ (⟨#[32]⟩ ++ ⟨(intT n).toArray⟩) = ⟨(acc ++ 32 :: intT n).toArray⟩ := by
          rw [show (⟨#[32]⟩ : ByteArray) = ⟨[(32 : UInt8)].toArray⟩ from rfl, cat_mkT, cat_mkT]; rfl
        have hal2 : (⟨acc.toArray⟩ : ByteArray).size ≤ 7218 := by rw [mk_sizeT]; exact hal
        have Hacc := hide hacc; have Hcat := hide hcat; have Hb := hide hb; have HC := Lib.hid hc
        clear hacc hcat hb hc hs hn HL HL2 Htr hRT hal k2
        generalize (⟨(intT n).toArray⟩ : ByteArray) = N at *
        generalize hX : (⟨acc.toArray⟩ : ByteArray) = X at *
        clear hX
        go_wp2_with (go_at_call 39; refine (HC.out _).mono ?_; rintro e w1 ⟨rfl, hb1⟩)
        go_roundw
        case rel => exact ⟨j + 1, acc ++ 32 :: intT n, by omega, by go_num, congrArg Value.string Hcat.out, by rw [List.append_assoc]; exact Hacc.out, Hb.out.trans (hb1.mono Hb.out.size)⟩
        case measure => simp [intOf]; omega
      · obtain rfl : j = tr.length := by omega
        rw [ocTr_end, List.append_nil] at hacc
        have Hacc := hide hacc; have Hb := hide hb; clear hacc hb
        go_wp2
        go_ret
        exact ⟨retS (by rw [Hacc.out]), Hb.out⟩
end Go.Proofs.YtheddnjhkcpmnaaDoor
