
/- ListU: what the Go text returns. No condition. -/
import Derived.Test.YtheddnjhkcpmnaaSlU
import Derived.Test.YtheddnjhkcpmnaaLeb
import Derived.Test.YtheddnjhkcpmnaaBld
import Derived.Deep.RegionWith
set_option linter.unusedSimpArgs false
set_option linter.unusedVariables false
set_option maxRecDepth 100000
namespace Go.Proofs.Ytheddnjhkcpmnaa
open Go.RowKit

theorem cat_mk (a b : List UInt8) : (⟨a.toArray⟩ : ByteArray) ++ ⟨b.toArray⟩ = ⟨(a ++ b).toArray⟩ := by
  apply ByteArray.ext
  apply Array.toList_inj.1
  simp
theorem mk_size (l : List UInt8) : (⟨l.toArray⟩ : ByteArray).size = l.length := by simp [ByteArray.size]
def lebList (zs : List Int) : List UInt8 := zs.flatMap fun z => leb z.toNat
def listB (zs : List Int) : List UInt8 := leb zs.length ++ lebList zs
def luS (zs : List Int) : ByteArray := if zs.length ≤ 200 ∧ (listB zs).length ≤ 2000 then ⟨(listB zs).toArray⟩ else ⟨#[]⟩
def luB (zs : List Int) : Bool := decide (zs.length ≤ 200 ∧ (listB zs).length ≤ 2000)
theorem lu_yes {zs : List Int} {L : List UInt8} (h : zs.length ≤ 200) (e : listB zs = L) (hL : L.length ≤ 2000) : luS zs = ⟨L.toArray⟩ ∧ luB zs = true := by
  subst e; simp [luS, luB, h, hL]
theorem lu_no {zs : List Int} (h : ¬ (zs.length ≤ 200 ∧ (listB zs).length ≤ 2000)) : luS zs = ⟨#[]⟩ ∧ luB zs = false := by
  unfold luS luB; rw [if_neg h]; simp only [true_and, decide_eq_false_iff_not]; exact h
theorem retSB {s s' : ByteArray} {b b' : Bool} (h : s' = s ∧ b' = b) : Ending.returned (.tuple #[.string s, .bool b]) = .returned (.tuple #[.string s', .bool b']) := by rw [h.1, h.2]
theorem lebList_snoc (zs : List Int) (k : Nat) (h : k < zs.length) : lebList (zs.take (k + 1)) = lebList (zs.take k) ++ leb (zs[k]).toNat := by
  unfold lebList
  rw [List.take_succ_eq_append_getElem h, List.flatMap_append]; simp
theorem lebList_le (zs : List Int) : (lebList zs).length ≤ 11 * zs.length := by
  unfold lebList
  induction zs with
  | nil => simp
  | cons z zs ih => simp only [List.flatMap_cons, List.length_append, List.length_cons]; have := leb_le z.toNat; omega

set_option maxHeartbeats 800000 in
theorem spec_ListU (v : Value) (zs : List Int) (w : World) (hr : Rd w w.heap.size v zs.length (icells .u64 zs)) (hz : ∀ z ∈ zs, 0 ≤ z ∧ z ≤ 18446744073709551615) (hl : zs.length ≤ 9223372036854775807) :
    Calls Try.prog 24 #[v] w fun e w' => e = .returned (.tuple #[.string (luS zs), .bool (luB zs)]) ∧ Below w.heap.size w w' := by
  obtain ⟨A, c, rfl, hn, hc, hcell⟩ := id hr
  by_cases h200 : zs.length ≤ 200
  · have hlen : Hid (∀ w, Calls Try.prog 64 #[.int .u64 (zs.length : Int)] w fun e w' => e = .returned (.string ⟨(leb zs.length).toArray⟩) ∧ Below w.heap.size w w') := hide (fun w => spec_l1PutU zs.length (by omega) w)
    go_enter Try.func24, Try.ntmps24
    go_wp2_with (go_at_call 64; refine (hlen.out _).mono ?_; rintro e w1 ⟨rfl, hb1⟩)
    go_loopw [4, 16] (fun s i wr => ∃ k : Nat, k ≤ zs.length ∧ i = .int .i64 k ∧ s = .string ⟨(leb zs.length ++ lebList (zs.take k)).toArray⟩ ∧ Below w.heap.size w wr) (fun _ i _ => zs.length - (intOf i).toNat)
    case atStart => exact ⟨0, by omega, rfl, by simp [lebList], hb1⟩
    case round =>
      obtain ⟨k, hk, rfl, rfl, hb⟩ := hrel
      by_cases hlt : k < zs.length
      · obtain ⟨b, o, rfl, hbB, hsrc0⟩ := hr.at_ (j := k) (by rw [icells_length]; exact hlt)
        rw [icells_get _ _ hlt] at hsrc0
        obtain ⟨m, hm⟩ := Int.eq_ofNat_of_zero_le (hz zs[k] (List.getElem_mem hlt)).1
        have hmb := (hz zs[k] (List.getElem_mem hlt)).2
        have hsn := lebList_snoc zs k hlt
        rw [hm] at hsrc0 hmb hsn
        rw [Int.toNat_natCast] at hsn
        have hsrc : wr.cell? ⟨b, o + k, none⟩ = some (.int .u64 (m : Int)) := (hb.cell (p := ⟨b, o + k, none⟩) hbB).trans hsrc0
        have Hc := hide (fun w => spec_l1PutU m (by omega) w)
        have Hsn := hide hsn
        have Hb := hide hb
        clear hsrc0 hm hsn hb hmb hz hr hcell hb1
        have q1 := leb_le zs.length
        have q2 := leb_le m
        have q3 : (lebList (zs.take k)).length ≤ 2200 := by have := lebList_le (zs.take k); rw [List.length_take] at this; omega
        go_wp2_with (go_at_call 64; refine (Hc.out _).mono ?_; rintro e w2 ⟨rfl, hb2⟩)
        go_roundw
        case rel => exact ⟨k + 1, by omega, by go_num, by rw [Hsn.out, cat_mk, List.append_assoc], Hb.out.trans (hb2.mono Hb.out.size)⟩
        case measure => simp [intOf]; omega
      · obtain rfl : k = zs.length := by omega
        have h1 := hide (show lebList (zs.take zs.length) = lebList zs by rw [List.take_length])
        rw [h1.out]
        by_cases hm : (listB zs).length ≤ 2000
        · have hm' : (leb zs.length).length + (lebList zs).length ≤ 2000 := by unfold listB at hm; rw [List.length_append] at hm; exact hm
          go_wp2
          go_ret2
          exact ⟨retSB (lu_yes h200 rfl hm), hb⟩
        · have hm' : ¬ (leb zs.length).length + (lebList zs).length ≤ 2000 := by unfold listB at hm; rw [List.length_append] at hm; exact hm
          go_wp2
          go_ret2
          exact ⟨retSB (lu_no (fun h => hm h.2)), hb⟩
  · go_enter Try.func24, Try.ntmps24
    go_wp2
    go_ret2
    exact ⟨retSB (lu_no (fun h => h200 h.1)), Below.refl _ _⟩

set_option maxHeartbeats 800000 in
theorem impl_ListU (v : Value) (zs : List Int) (w : World) (hr : Rd w w.heap.size v zs.length (icells .u64 zs)) (hz : ∀ z ∈ zs, 0 ≤ z ∧ z ≤ 18446744073709551615) (hl : zs.length ≤ 9223372036854775807) :
    Calls Try.prog 23 #[v] w fun e w' => e = .returned (.tuple #[.string (luS zs), .bool (luB zs)]) ∧ Below w.heap.size w w' := by
  obtain ⟨A, c, rfl, hn, hc, hcell⟩ := id hr
  by_cases h200 : zs.length ≤ 200
  · have hlen : Hid (∀ w, Calls Try.prog 62 #[.int .u64 (zs.length : Int)] w fun e w' => e = .returned (.string ⟨(leb zs.length).toArray⟩) ∧ Below w.heap.size w w') := hide (fun w => impl_putU zs.length (by omega) w)
    have q1 := leb_le zs.length
    have hbld := IsBld.fresh w
    have hal : Below w.heap.size w (w.alloc (.cells #[.pointer none, .slice none 0 0] 92)) := (Below.refl _ _).alloc (Nat.le_refl _) _
    have Hal := hide hal; clear hal
    have Hbld := hide hbld; clear hbld
    go_enter Try.func23, Try.ntmps23
    go_wp2_with (first
      | (go_at_call 62; refine (hlen.out _).mono ?_; rintro e w1 ⟨rfl, hb1⟩; have hbl1 := hide (Hbld.out.below hb1); have hB1 := hide (Hal.out.trans (hb1.mono Hal.out.size)))
      | (go_at_call 73; refine (bld_WriteString _ _ _ _ _ hbl1.out (by rw [mk_size, List.length_nil]; omega) hB1.out.size).mono ?_; (first | rintro e w2 ⟨rfl, hbl2, hb2⟩ | rintro e w2 rfl hbl2 hb2); have hB2 := hide (hB1.out.trans hb2)))
    go_loopw [17] (fun i wr => ∃ k : Nat, k ≤ zs.length ∧ i = .int .i64 k ∧ IsBld w.heap.size w.heap.size (leb zs.length ++ lebList (zs.take k)) wr ∧ Below w.heap.size w wr) (fun i _ => zs.length - (intOf i).toNat)
    case atStart => exact ⟨0, by omega, rfl, by simpa [lebList] using hbl2, hB2.out⟩
    case round =>
      obtain ⟨k, hk, rfl, hbl, hb⟩ := hrel
      by_cases hlt : k < zs.length
      · obtain ⟨b, o, rfl, hbB, hsrc0⟩ := hr.at_ (j := k) (by rw [icells_length]; exact hlt)
        rw [icells_get _ _ hlt] at hsrc0
        obtain ⟨m, hm⟩ := Int.eq_ofNat_of_zero_le (hz zs[k] (List.getElem_mem hlt)).1
        have hmb := (hz zs[k] (List.getElem_mem hlt)).2
        have hsn := lebList_snoc zs k hlt
        rw [hm] at hsrc0 hmb hsn
        rw [Int.toNat_natCast] at hsn
        have hsrc : wr.cell? ⟨b, o + k, none⟩ = some (.int .u64 (m : Int)) := (hb.cell (p := ⟨b, o + k, none⟩) hbB).trans hsrc0
        have Hc := hide (fun w => impl_putU m (by omega) w)
        have Hsn := hide hsn
        have Hb := hide hb
        have Hbl := hide hbl
        have q2 := leb_le m
        have q3 : (lebList (zs.take k)).length ≤ 2200 := by have := lebList_le (zs.take k); rw [List.length_take] at this; omega
        have q4 : (leb zs.length ++ lebList (zs.take k)).length ≤ 2211 := by rw [List.length_append]; omega
        generalize hLk : leb zs.length ++ lebList (zs.take k) = L at *
        have HLk := hide hLk; clear hLk
        clear hsrc0 hm hsn hb hmb hz hr hcell hb1 hbl hbl1 hB1 hbl2 hb2 hB2 Hbld Hal q3
        go_wp2_with (first
          | (go_at_call 62; refine (Hc.out _).mono ?_; rintro e w3 ⟨rfl, hb3⟩; have Hbl3 := hide (Hbl.out.below hb3); have HB3 := hide (Hb.out.trans (hb3.mono Hb.out.size)))
          | (go_at_call 73; refine (bld_WriteString _ _ _ _ _ Hbl3.out (by rw [mk_size]; omega) HB3.out.size).mono ?_; (first | rintro e w4 ⟨rfl, hbl4, hb4⟩ | rintro e w4 rfl hbl4 hb4)))
        go_roundw
        case rel => 
          refine ⟨k + 1, by omega, by go_num, ?_, HB3.out.trans hb4⟩
          rw [Hsn.out, ← List.append_assoc, HLk.out]
          exact hbl4
        case measure => simp [intOf]; omega
      · obtain rfl : k = zs.length := by omega
        rw [List.take_length] at hbl
        have Hbl := hide hbl
        have hL : (listB zs).length = (leb zs.length ++ lebList zs).length := rfl
        have hne : leb zs.length ++ lebList zs ≠ [] := by
          intro e; have h := leb_pos zs.length; rw [(List.append_eq_nil_iff.1 e).1] at h; simp at h
        have Hne := hide hne
        have hlen2 : (leb zs.length ++ lebList zs).length ≤ 2211 := by
          have q5 := lebList_le zs
          rw [List.length_append]
          omega
        have HL : Hid (listB zs = leb zs.length ++ lebList zs) := rfl
        generalize leb zs.length ++ lebList zs = L at *
        clear hbl hne hL
        by_cases hm : L.length ≤ 2000
        all_goals
          go_wp2_with (first
            | (go_at_call 74; refine (bld_Len _ _ _ _ Hbl.out).mono ?_; rintro e w' ⟨rfl, rfl⟩)
            | (go_at_call 75; refine (bld_String _ _ _ _ Hbl.out Hne.out).mono ?_; rintro e w5 ⟨rfl, hb5⟩))
          go_ret2
          first
            | exact ⟨retSB (lu_yes h200 HL.out hm), hb.trans hb5⟩
            | exact ⟨retSB (lu_no (fun h => hm (by have := h.2; rw [HL.out] at this; exact this))), hb⟩
  · go_enter Try.func23, Try.ntmps23
    go_wp2
    go_ret2
    exact ⟨retSB (lu_no (fun h => h200 h.1)), Below.refl _ _⟩
end Go.Proofs.Ytheddnjhkcpmnaa
