
/- impl.outcomeText: what the Go text returns. Conditions: the outcome is one that OutcomeText writes; the table lies where the program lays it. -/
import Derived.Test.YtheddnjhkcpmnaaDoorOtP
import Derived.Test.YtheddnjhkcpmnaaDoorWd
import Derived.Test.YtheddnjhkcpmnaaDoorBld
import Derived.Deep.RegionWith
import Derived.Deep.Cut
import Derived.Deep.CutRange
set_option linter.unusedSimpArgs false
set_option linter.unusedVariables false
set_option maxRecDepth 100000
namespace Go.Proofs.YtheddnjhkcpmnaaDoor
open Go.RowKit

theorem P10.below' {w W : World} (h : P10 w) (hb : Below w.heap.size w W) (hg : 4 < w.heap.size) : P10 W := var?_below hb (by kernel_rfl) hg h
theorem Bk.keep2 {w w' : World} {g B : Nat} {t : TypeId} {cs : Array Value} (h : Bk w g t cs) (hb : Below B w w') (hg : g < B) : Bk w' g t cs := (hb.block g hg).trans h
theorem ocHd_ne (o : Oc) : ocHd o ≠ [] := by unfold ocHd; simp
theorem ocT_ne (o : Oc) : ocT o ≠ [] := fun h => ocHd_ne o (List.append_eq_nil_iff.1 h).1
theorem ocW_ix {k : Nat} (hk : k < 6) (w : World) : (Instr.index 74 (.agg #[.string ⟨#[]⟩, .string ⟨#[100, 111, 110, 101]⟩, .string ⟨#[112, 97, 110, 105, 99]⟩, .string ⟨#[101, 120, 105, 116]⟩, .string ⟨#[100, 101, 101, 112]⟩, .string ⟨#[102, 117, 101, 108]⟩]) (.int .i64 (k : Int))).run Tryd.prog w = .ok (.string ⟨(ocW.getD k []).toArray⟩) w := by
  obtain rfl | rfl | rfl | rfl | rfl | rfl : k = 0 ∨ k = 1 ∨ k = 2 ∨ k = 3 ∨ k = 4 ∨ k = 5 := by omega
  all_goals kernel_rfl
set_option maxHeartbeats 3200000 in
theorem impl_outcomeText (o : Oc) (s : Value) (w : World) (hr : OcAt w w.heap.size o s) (hc1 : 1 ≤ o.code) (hc2 : o.code ≤ 5) (hv : small o.value) (ht : ∀ n ∈ o.trace, small n) (hl : o.trace.length ≤ 600) (hp : P10 w) (hg : 4 < w.heap.size) :
    Calls Tryd.prog 34 #[o.agg s] w fun e w' => e = .returned (.string ⟨(ocT o).toArray⟩) ∧ Below w.heap.size w w' := by
  have htl := ocTr_len ht
  have hHd := ocHd_len hv
  have hI := fun n (hn : small n) W (hW : Below w.heap.size w W) => strconv_Itoa n hn.1 hn.2 W (hp.below' hW hg)
  have hIv := fun W (hW : Below w.heap.size w W) => hI o.value hv W hW
  have hT : ocT o = ocHd o ++ ocTr o.trace := rfl
  have hne := ocT_ne o
  have hvl := intT_len (n := o.value) (by have := hv.1; omega) (by have := hv.2; omega)
  have hH : (⟨(ocW.getD o.code.toNat []).toArray⟩ : ByteArray) ++ ⟨#[32]⟩ ++ ⟨(intT o.value).toArray⟩ ++ ⟨#[58]⟩ = ⟨(ocHd o).toArray⟩ := by
    have e1 : (⟨#[32]⟩ : ByteArray) = ⟨[(32 : UInt8)].toArray⟩ := rfl
    have e2 : (⟨#[58]⟩ : ByteArray) = ⟨[(58 : UInt8)].toArray⟩ := rfl
    rw [e1, e2, cat_mkT, cat_mkT, cat_mkT]; rfl
  unfold OcAt at hr
  unfold Oc.agg
  have Hs := hide (HoO.start w o s)
  generalize ocT o = RT at *
  generalize ocHd o = HD at *
  obtain ⟨code, value, tr, used⟩ := o
  dsimp only at *
  obtain ⟨k, rfl⟩ := Int.eq_ofNat_of_zero_le (show 0 ≤ code by omega)
  have hk : k < 6 := by omega
  rw [Int.toNat_natCast] at hH
  have hix := fun w => ocW_ix hk w
  have hwl := ocW_len k
  rw [← mk_sizeT] at hwl hvl
  obtain ⟨A, c, rfl, hn, hcp, hcell⟩ := id hr
  have Hr := hide hr; have Htr := Lib.hid ht; have HI := Lib.hid hI; have HIv := Lib.hid hIv; have HT := hide hT; have Hne := Lib.hid hne
  clear hr hcell ht hI hIv hT hc1 hc2 hv hp hg hne
  generalize (⟨(ocW.getD k []).toArray⟩ : ByteArray) = B at *
  generalize (⟨(intT value).toArray⟩ : ByteArray) = T at *
  have HH := hide hH; clear hH
  have s1 : ¬ 9223372036854775807 < B.size + 1 := by omega
  have s2 : ¬ 9223372036854775807 < B.size + 1 + T.size := by omega
  have s3 : ¬ 9223372036854775807 < B.size + 1 + T.size + 1 := by omega
  have hk1 : (k : Int) < 6 := by omega
  have hk0 : (0 : Int) ≤ (k : Int) := by omega
  have Ho := hide Hs.out.drew
  go_enter Tryd.func34, Tryd.ntmps34
  go_upto_region 1 with fail
  go_cut [3] from 7 to 16 (fun q wx => q = .string ⟨HD.toArray⟩ ∧ HoO w ⟨k, value, tr, used⟩ (.slice A tr.length c) wx)
  case first =>
    go_region_with (go_at_call 54; refine (HIv.out _ Ho.out.b).mono ?_; rintro e w4 ⟨rfl, hb1⟩; have Ho4 := Ho.out.below hb1; have k0 := Ho4.k.cell 0; have kl : w.heap.size < w4.heap.size := Ho4.k.lt; have Ho4 := hide Ho4; clear hb1)
    all_goals
      go_wp2_with fail
      go_meet
      case rel => exact ⟨congrArg Value.string HH.out, Ho4.out⟩
  case rest =>
    obtain ⟨rfl, hO⟩ := hcut
    have k2 := hO.k.cell 2
    have kl : w.heap.size < wc.heap.size := hO.k.lt
    have hbl := hO.b
    have hf := (IsBld.fresh wc)
    have hb0 := hbl.alloc hbl.size (.cells #[.pointer none, .slice none 0 0] 78)
    have h1 := bld_WriteString wc.heap.size wc.heap.size [] ⟨HD.toArray⟩ _ hf (by rw [mk_sizeT]; simp; omega) (by simp)
    have h1 : Calls Tryd.prog 55 #[.pointer (some ⟨wc.heap.size, 0, none⟩), .string ⟨HD.toArray⟩] (wc.alloc (.cells #[.pointer none, .slice none 0 0] 78)) fun e w' => e = .returned (.tuple #[.int .i64 (⟨HD.toArray⟩ : ByteArray).size, .nilIface]) ∧ IsBld wc.heap.size wc.heap.size HD w' ∧ Below wc.heap.size (wc.alloc (.cells #[.pointer none, .slice none 0 0] 78)) w' := by simpa using h1
    have hO' := hO.alloc (.cells #[.pointer none, .slice none 0 0] 78)
    have Hb0 := hide hb0; have H1 := hide h1; have HO' := hide hO'
    clear hO Ho HH s1 s2 s3 hix HIv hf h1 hb0 hbl hO'
    have HTe := hide (show HD ++ ocTr tr = RT from HT.out.symm)
    go_wp2_with (go_at_call 55; refine (H1.out).mono ?_; rintro e w1 ⟨rfl, hbd, hb1⟩; have k2 := (HO'.out.k.keep2 hb1 kl).cell 2; have Hbd := hide hbd; have Hb := hide (Hb0.out.trans (hb1.mono (Nat.le_of_lt kl))); have hz := hb1.size; clear hbd hb1)
    have hg0 : wc.heap.size ≤ w1.heap.size := by simp at hz; omega
    clear hz
    go_loopw [22] (fun i wr => ∃ (j : Nat) (acc : List UInt8), j ≤ tr.length ∧ i = .int .i64 j ∧ acc ++ ocTr (tr.drop j) = RT ∧ IsBld wc.heap.size wc.heap.size acc wr ∧ Below w.heap.size w wr ∧ wc.heap.size ≤ wr.heap.size) (fun i _ => tr.length - (intOf i).toNat)
    case atStart => exact ⟨0, HD, by omega, rfl, HTe.out, Hbd.out, Hb.out, hg0⟩
    case round =>
      obtain ⟨j, acc, hj, rfl, hacc, hbd, hb, hgr⟩ := hrel
      have hRT : RT.length ≤ 7218 := by have := congrArg List.length HT.out; rw [List.length_append] at this; omega
      have hal : acc.length ≤ 7218 := by have := congrArg List.length hacc; rw [List.length_append] at this; omega
      by_cases hlt : j < tr.length
      · rw [ocTr_step hlt] at hacc
        obtain ⟨b, o, rfl, hbB, hs⟩ := Hr.out.at_ (j := j) (by rw [icells_length]; exact hlt)
        rw [icells_get _ _ hlt] at hs
        have q0 := (hb.cell (p := ⟨b, o + j, none⟩) hbB).trans hs
        have hbw : b < wr.heap.size := Nat.lt_of_lt_of_le hbB hb.size
        have hn := Htr.out _ (List.getElem_mem hlt)
        have hTl := intT_len (n := tr[j]) (by have := hn.1; omega) (by have := hn.2; omega)
        have hc := HI.out _ hn wr hb
        generalize tr[j] = n at *
        have hcat : (⟨#[32]⟩ : ByteArray) ++ ⟨(intT n).toArray⟩ = ⟨(32 :: intT n).toArray⟩ := by
          rw [show (⟨#[32]⟩ : ByteArray) = ⟨[(32 : UInt8)].toArray⟩ from rfl, cat_mkT]; rfl
        have hw : ∀ W, IsBld wc.heap.size wc.heap.size acc W → wc.heap.size ≤ W.heap.size → Calls Tryd.prog 55 #[.pointer (some ⟨wc.heap.size, 0, none⟩), .string (⟨#[32]⟩ ++ ⟨(intT n).toArray⟩)] W fun e w' => e = .returned (.tuple #[.int .i64 (⟨(32 :: intT n).toArray⟩ : ByteArray).size, .nilIface]) ∧ IsBld wc.heap.size wc.heap.size (acc ++ 32 :: intT n) w' ∧ Below wc.heap.size W w' := fun W h1 h2 => by
          rw [hcat]; exact bld_WriteString wc.heap.size wc.heap.size acc ⟨(32 :: intT n).toArray⟩ W h1 (by rw [mk_sizeT]; simp; omega) h2
        have hNl : (⟨(intT n).toArray⟩ : ByteArray).size ≤ 11 := by rw [mk_sizeT]; exact hTl
        have HC := hide hc; have HW := Lib.hid hw; have Hacc := hide hacc; have Hbd := hide hbd; have Hb := hide hb
        clear hc hw hcat hacc hbd hb hs hn HI Htr hRT hal k2 hTl
        generalize hX : (⟨(intT n).toArray⟩ : ByteArray) = X at *
        clear hX
        have s4 : ¬ 9223372036854775807 < 1 + X.size := by omega
        go_wp2_with (first
          | (go_at_call 54; refine (HC.out).mono ?_; rintro e w3 ⟨rfl, hb1⟩; have Hbd := hide (Hbd.out.below hb1); have Hb := hide (Hb.out.trans (hb1.mono Hb.out.size)); have hgr := Nat.le_trans hgr hb1.size; clear hb1)
          | (go_at_call 55; refine (HW.out _ Hbd.out hgr).mono ?_; rintro e w4 ⟨rfl, hbd, hb1⟩; have Hbd := hide hbd; have Hb := hide (Hb.out.trans (hb1.mono (Nat.le_of_lt kl))); have hgr := Nat.le_trans hgr hb1.size; clear hbd hb1))
        go_roundw
        case rel => exact ⟨j + 1, acc ++ 32 :: intT n, by omega, by go_num, by rw [List.append_assoc]; exact Hacc.out, Hbd.out, Hb.out, hgr⟩
        case measure => simp [intOf]; omega
      · obtain rfl : j = tr.length := by omega
        rw [ocTr_end, List.append_nil] at hacc
        subst hacc
        have hst := bld_String wc.heap.size wc.heap.size acc wr hbd Hne.out
        have HS := hide hst; have Hb := hide hb
        clear hbd hb hst Hne
        go_wp2_with (go_at_call 56; refine (HS.out).mono ?_; rintro e w3 ⟨rfl, hb1⟩; have Hb := hide (Hb.out.trans (hb1.mono (Nat.le_of_lt kl))); clear hb1)
        go_ret
        exact ⟨rfl, Hb.out⟩
end Go.Proofs.YtheddnjhkcpmnaaDoor
