
/- RowsBytes: what the Go text returns. No condition. -/
import Derived.Test.YtheddnjhkcpmnaaMem
import Derived.Test.YtheddnjhkcpmnaaRbP
import Derived.Test.YtheddnjhkcpmnaaGr
import Derived.Test.YtheddnjhkcpmnaaBlk
import Derived.Test.YtheddnjhkcpmnaaLebP
import Derived.Deep.RegionHeld3
import Derived.Deep.RegionWith
set_option linter.unusedSimpArgs false
set_option linter.unusedVariables false
set_option maxRecDepth 100000
namespace Go.Proofs.Ytheddnjhkcpmnaa
open Go.RowKit

theorem spec_PutUi (a : Int) (h1 : 0 ≤ a) (h2 : a ≤ 1000000000) (w : World) :
    Calls Try.prog 12 #[.int .u64 a] w fun e w' => e = .returned (.string ⟨(leb a.toNat).toArray⟩) ∧ Below w.heap.size w w' := by
  obtain ⟨n, rfl⟩ := Int.eq_ofNat_of_zero_le h1
  exact spec_PutU n (by omega) w
theorem impl_putUi (a : Int) (h1 : 0 ≤ a) (h2 : a ≤ 1000000000) (w : World) :
    Calls Try.prog 62 #[.int .u64 a] w fun e w' => e = .returned (.string ⟨(leb a.toNat).toArray⟩) ∧ Below w.heap.size w w' := by
  obtain ⟨n, rfl⟩ := Int.eq_ofNat_of_zero_le h1
  exact impl_putU n (by omega) w
theorem cat_mk (a b : List UInt8) : (⟨a.toArray⟩ : ByteArray) ++ ⟨b.toArray⟩ = ⟨(a ++ b).toArray⟩ := by
  apply ByteArray.ext
  apply Array.toList_inj.1
  simp
theorem three {w : World} {g : Nat} {t : TypeId} {a b c : Value} (h : Bk w g t #[a, b, c]) : w.cell? ⟨g, 0, none⟩ = some a ∧ w.cell? ⟨g, 1, none⟩ = some b ∧ w.cell? ⟨g, 2, none⟩ = some c := ⟨h.cell 0, h.cell 1, h.cell 2⟩

set_option maxHeartbeats 1600000 in
theorem spec_l7Bytes (v : Value) (l : List R3) (many : Int) (w : World) (hr : Rd w w.heap.size v l.length (rcells l)) (hl : l.length ≤ 300) (hok : rowsOk many 0 l = true) (hm : many ≤ 300) :
    Calls Try.prog 104 #[v] w fun e w' => e = .returned (.string ⟨(rowsB l).toArray⟩) ∧ Below w.heap.size w w' := by
  obtain ⟨A, c, rfl, hn, hc, hcell⟩ := id hr
  have Hr := hide hr; have Hok := hide hok; clear hr hcell hok
  go_enter Try.func104, Try.ntmps104
  go_wp2_with (go_at_call 12; refine (spec_PutU l.length (by omega) _).mono ?_; rintro e w1 ⟨rfl, hb1⟩)
  have q1 := leb_le l.length
  go_loopw [3, 4, 13] (fun s a i wr => ∃ (k : Nat) (acc : List UInt8) (x : Int), k ≤ l.length ∧ i = .int .i64 k ∧ a = .int .i64 x ∧ s = .string ⟨acc.toArray⟩ ∧ 0 ≤ x ∧ x ≤ 300 ∧ acc.length ≤ 11 + 33 * k ∧ acc ++ rowsBL x (l.drop k) = rowsB l ∧ rowsOk many x (l.drop k) = true ∧ Below w.heap.size w wr) (fun _ _ i _ => l.length - (intOf i).toNat)
  case atStart => exact ⟨0, leb l.length, 0, by omega, rfl, rfl, rfl, by omega, by omega, by omega, rfl, Hok.out, hb1⟩
  case round =>
    obtain ⟨k, acc, x, hk, rfl, rfl, rfl, hx1, hx2, hal, hacc, hok, hb⟩ := hrel
    by_cases hlt : k < l.length
    · obtain ⟨g0, g1, g2⟩ := rcells_get l k hlt
      obtain ⟨b, o, rfl, hbB, s0⟩ := Hr.out.at3 g0
      obtain ⟨_, _, e, _, s1⟩ := Hr.out.at3 g1
      cases e
      obtain ⟨_, _, e, _, s2⟩ := Hr.out.at3 g2
      cases e
      have hs0 := (hb.cell (p := ⟨b, o + k * 3, none⟩) hbB).trans s0
      have hs1 := (hb.cell (p := ⟨b, o + (k * 3 + 1), none⟩) hbB).trans s1
      have hs2 := (hb.cell (p := ⟨b, o + (k * 3 + 2), none⟩) hbB).trans s2
      rw [← Nat.add_assoc] at hs1 hs2
      obtain ⟨⟨r1, r2, r3, r4, r5⟩, hok2⟩ := rowsOk_step hlt hok
      have hst := rowsBL_step (x := x) hlt
      rw [hst] at hacc
      have q2 := leb_le (l[k].f - x).toNat
      have q3 := leb_le (l[k].t - l[k].f).toNat
      have q4 := lebs_le (l[k].p - l[k].t)
      have q5 := rowB_le x l[k]
      have Hacc := hide hacc; have Hok2 := hide hok2
      have Hb := hide hb
      clear hb s0 s1 s2 g0 g1 g2 Hr Hok hacc hok2 hok hst hb1
      generalize l[k] = r at *
      have Kb := hide ((Bk.new wr 72 #[.int .i64 r.f, .int .i64 r.t, .int .i64 r.p]).drew)
      have Hb0 := hide ((Hb.out.alloc Hb.out.size (.cells #[.int .i64 r.f, .int .i64 r.t, .int .i64 r.p] 72)).drew)
      have ea : IntKind.u64.wrap (IntKind.i64.wrap (r.f - x)) = r.f - x := by rw [IntKind.wrap_i64, IntKind.wrap_u64]; omega
      have eb : IntKind.u64.wrap (IntKind.i64.wrap (r.t - r.f)) = r.t - r.f := by rw [IntKind.wrap_i64, IntKind.wrap_u64]; omega
      have ec : IntKind.i64.wrap (r.p - r.t) = r.p - r.t := by rw [IntKind.wrap_i64]; omega
      have Ea := hide ea; have Eb := hide eb; have Ec := hide ec; clear ea eb ec
      obtain ⟨sa, hsa, la⟩ : ∃ sa : ByteArray, (⟨(leb (r.f - x).toNat).toArray⟩ : ByteArray) = sa ∧ sa.size ≤ 11 := ⟨_, rfl, by simpa [ByteArray.size] using q2⟩
      obtain ⟨sb, hsb, lb⟩ : ∃ sb : ByteArray, (⟨(leb (r.t - r.f).toNat).toArray⟩ : ByteArray) = sb ∧ sb.size ≤ 11 := ⟨_, rfl, by simpa [ByteArray.size] using q3⟩
      obtain ⟨sc, hsc, lc⟩ : ∃ sc : ByteArray, (⟨(lebs (r.p - r.t)).toArray⟩ : ByteArray) = sc ∧ sc.size ≤ 11 := ⟨_, rfl, by simpa [ByteArray.size] using q4⟩
      have n1 : ¬ (9223372036854775807 < sa.size + sb.size) := by omega
      have n2 : ¬ (9223372036854775807 < (sa ++ sb).size + sc.size) := by rw [ByteArray.size_append]; omega
      have n3 : ¬ (9223372036854775807 < sa.size + sb.size + sc.size) := by omega
      have n4 : ¬ (9223372036854775807 < acc.length + (sa.size + sb.size + sc.size)) := by omega
      have Sa := hide hsa; have Sb := hide hsb; have Sc := hide hsc; clear hsa hsb hsc
      go_wp2_with fail
      go_region_held3 (fun w' => w'.cell? ⟨wr.heap.size, 0, none⟩ = some (.int .i64 r.f) ∧ w'.cell? ⟨wr.heap.size, 1, none⟩ = some (.int .i64 r.t) ∧ w'.cell? ⟨wr.heap.size, 2, none⟩ = some (.int .i64 r.p)) (first | exact three Kb.out | exact three Kb2.out | exact three Kb3.out | exact three Kb4.out)
        (first
          | (go_at_call 12; rw [Ea.out]; refine (spec_PutUi (r.f - x) (by omega) (by omega) _).mono ?_; rintro e w2 ⟨rfl, hb2⟩; rw [Sa.out]; have Kb2 := hide (Kb.out.below hb2); have Hb2 := hide (Hb0.out.trans (hb2.mono Hb0.out.size)); clear hb2)
          | (go_at_call 12; rw [Eb.out]; refine (spec_PutUi (r.t - r.f) (by omega) (by omega) _).mono ?_; rintro e w3 ⟨rfl, hb3⟩; rw [Sb.out]; have Kb3 := hide (Kb2.out.below hb3); have Hb3 := hide (Hb2.out.trans (hb3.mono Hb2.out.size)); clear hb3)
          | (go_at_call 18; try rw [Ec.out]; refine (spec_PutS (r.p - r.t) (by omega) (by omega) _).mono ?_; rintro e w4 ⟨rfl, hb4⟩; rw [Sc.out]; have Kb4 := hide (Kb3.out.below hb4); have Hb4 := hide (Hb3.out.trans (hb4.mono Hb3.out.size)); clear hb4))
      have k1 := (three Kb4.out).2.1
      go_wp2
      refine ⟨⟨k + 1, acc ++ rowB x r, r.t, by omega, rfl, rfl, ?_, by omega, by omega, by rw [List.length_append]; omega, by rw [List.append_assoc]; exact Hacc.out, Hok2.out, Hb4.out⟩, ?_⟩
      · rw [← Sa.out, ← Sb.out, ← Sc.out]; unfold rowB; rw [cat_mk, cat_mk, cat_mk, List.append_assoc]
      · simp [intOf]; omega
    · obtain rfl : k = l.length := by omega
      rw [List.drop_length] at hacc
      have Hacc := hide (show rowsB l = acc by rw [← hacc]; exact List.append_nil _); clear hacc
      go_wp2
      go_ret
      exact ⟨retS (by rw [Hacc.out]), hb⟩
set_option maxHeartbeats 1600000 in
theorem impl_rowsBytes (v : Value) (l : List R3) (many : Int) (w : World) (hr : Rd w w.heap.size v l.length (rcells l)) (hl : l.length ≤ 300) (hok : rowsOk many 0 l = true) (hm : many ≤ 300) :
    Calls Try.prog 103 #[v] w fun e w' => e = .returned (.string ⟨(rowsB l).toArray⟩) ∧ Below w.heap.size w w' := by
  obtain ⟨A, c, rfl, hn, hc, hcell⟩ := id hr
  have Hr := hide hr; have Hok := hide hok; clear hr hcell hok
  go_enter Try.func103, Try.ntmps103
  go_wp2_with (go_at_call 62; refine (impl_putU l.length (by omega) _).mono ?_; rintro e w1 ⟨rfl, hb1⟩)
  have q1 := leb_le l.length
  go_loopw [3, 4, 13] (fun s a i wr => ∃ (k : Nat) (acc : List UInt8) (x : Int), k ≤ l.length ∧ i = .int .i64 k ∧ a = .int .i64 x ∧ s = .string ⟨acc.toArray⟩ ∧ 0 ≤ x ∧ x ≤ 300 ∧ acc.length ≤ 11 + 33 * k ∧ acc ++ rowsBL x (l.drop k) = rowsB l ∧ rowsOk many x (l.drop k) = true ∧ Below w.heap.size w wr) (fun _ _ i _ => l.length - (intOf i).toNat)
  case atStart => exact ⟨0, leb l.length, 0, by omega, rfl, rfl, rfl, by omega, by omega, by omega, rfl, Hok.out, hb1⟩
  case round =>
    obtain ⟨k, acc, x, hk, rfl, rfl, rfl, hx1, hx2, hal, hacc, hok, hb⟩ := hrel
    by_cases hlt : k < l.length
    · obtain ⟨g0, g1, g2⟩ := rcells_get l k hlt
      obtain ⟨b, o, rfl, hbB, s0⟩ := Hr.out.at3 g0
      obtain ⟨_, _, e, _, s1⟩ := Hr.out.at3 g1
      cases e
      obtain ⟨_, _, e, _, s2⟩ := Hr.out.at3 g2
      cases e
      have hs0 := (hb.cell (p := ⟨b, o + k * 3, none⟩) hbB).trans s0
      have hs1 := (hb.cell (p := ⟨b, o + (k * 3 + 1), none⟩) hbB).trans s1
      have hs2 := (hb.cell (p := ⟨b, o + (k * 3 + 2), none⟩) hbB).trans s2
      rw [← Nat.add_assoc] at hs1 hs2
      obtain ⟨⟨r1, r2, r3, r4, r5⟩, hok2⟩ := rowsOk_step hlt hok
      have hst := rowsBL_step (x := x) hlt
      rw [hst] at hacc
      have q2 := leb_le (l[k].f - x).toNat
      have q3 := leb_le (l[k].t - l[k].f).toNat
      have q4 := lebs_le (l[k].p - l[k].t)
      have q5 := rowB_le x l[k]
      have Hacc := hide hacc; have Hok2 := hide hok2
      have Hb := hide hb
      clear hb s0 s1 s2 g0 g1 g2 Hr Hok hacc hok2 hok hst hb1
      generalize l[k] = r at *
      have Kb := hide ((Bk.new wr 72 #[.int .i64 r.f, .int .i64 r.t, .int .i64 r.p]).drew)
      have Hb0 := hide ((Hb.out.alloc Hb.out.size (.cells #[.int .i64 r.f, .int .i64 r.t, .int .i64 r.p] 72)).drew)
      have ea : IntKind.u64.wrap (IntKind.i64.wrap (r.f - x)) = r.f - x := by rw [IntKind.wrap_i64, IntKind.wrap_u64]; omega
      have eb : IntKind.u64.wrap (IntKind.i64.wrap (r.t - r.f)) = r.t - r.f := by rw [IntKind.wrap_i64, IntKind.wrap_u64]; omega
      have ec : IntKind.i64.wrap (r.p - r.t) = r.p - r.t := by rw [IntKind.wrap_i64]; omega
      have Ea := hide ea; have Eb := hide eb; have Ec := hide ec; clear ea eb ec
      obtain ⟨sa, hsa, la⟩ : ∃ sa : ByteArray, (⟨(leb (r.f - x).toNat).toArray⟩ : ByteArray) = sa ∧ sa.size ≤ 11 := ⟨_, rfl, by simpa [ByteArray.size] using q2⟩
      obtain ⟨sb, hsb, lb⟩ : ∃ sb : ByteArray, (⟨(leb (r.t - r.f).toNat).toArray⟩ : ByteArray) = sb ∧ sb.size ≤ 11 := ⟨_, rfl, by simpa [ByteArray.size] using q3⟩
      obtain ⟨sc, hsc, lc⟩ : ∃ sc : ByteArray, (⟨(lebs (r.p - r.t)).toArray⟩ : ByteArray) = sc ∧ sc.size ≤ 11 := ⟨_, rfl, by simpa [ByteArray.size] using q4⟩
      have n1 : ¬ (9223372036854775807 < sa.size + sb.size) := by omega
      have n2 : ¬ (9223372036854775807 < (sa ++ sb).size + sc.size) := by rw [ByteArray.size_append]; omega
      have n3 : ¬ (9223372036854775807 < sa.size + sb.size + sc.size) := by omega
      have n4 : ¬ (9223372036854775807 < acc.length + (sa.size + sb.size + sc.size)) := by omega
      have Sa := hide hsa; have Sb := hide hsb; have Sc := hide hsc; clear hsa hsb hsc
      go_wp2_with fail
      go_region_held3 (fun w' => w'.cell? ⟨wr.heap.size, 0, none⟩ = some (.int .i64 r.f) ∧ w'.cell? ⟨wr.heap.size, 1, none⟩ = some (.int .i64 r.t) ∧ w'.cell? ⟨wr.heap.size, 2, none⟩ = some (.int .i64 r.p)) (first | exact three Kb.out | exact three Kb2.out | exact three Kb3.out | exact three Kb4.out)
        (first
          | (go_at_call 62; rw [Ea.out]; refine (impl_putUi (r.f - x) (by omega) (by omega) _).mono ?_; rintro e w2 ⟨rfl, hb2⟩; rw [Sa.out]; have Kb2 := hide (Kb.out.below hb2); have Hb2 := hide (Hb0.out.trans (hb2.mono Hb0.out.size)); clear hb2)
          | (go_at_call 62; rw [Eb.out]; refine (impl_putUi (r.t - r.f) (by omega) (by omega) _).mono ?_; rintro e w3 ⟨rfl, hb3⟩; rw [Sb.out]; have Kb3 := hide (Kb2.out.below hb3); have Hb3 := hide (Hb2.out.trans (hb3.mono Hb2.out.size)); clear hb3)
          | (go_at_call 67; try rw [Ec.out]; refine (impl_putS (r.p - r.t) (by omega) (by omega) _).mono ?_; rintro e w4 ⟨rfl, hb4⟩; rw [Sc.out]; have Kb4 := hide (Kb3.out.below hb4); have Hb4 := hide (Hb3.out.trans (hb4.mono Hb3.out.size)); clear hb4))
      have k1 := (three Kb4.out).2.1
      go_wp2
      refine ⟨⟨k + 1, acc ++ rowB x r, r.t, by omega, rfl, rfl, ?_, by omega, by omega, by rw [List.length_append]; omega, by rw [List.append_assoc]; exact Hacc.out, Hok2.out, Hb4.out⟩, ?_⟩
      · rw [← Sa.out, ← Sb.out, ← Sc.out]; unfold rowB; rw [cat_mk, cat_mk, cat_mk, List.append_assoc]
      · simp [intOf]; omega
    · obtain rfl : k = l.length := by omega
      rw [List.drop_length] at hacc
      have Hacc := hide (show rowsB l = acc by rw [← hacc]; exact List.append_nil _); clear hacc
      go_wp2
      go_ret
      exact ⟨retS (by rw [Hacc.out]), hb⟩

theorem ps_rb {a : ByteArray} {b : Bool} {l : List R3} {many : Int} (h1 : rbS l many = a) (h2 : rbB l many = b) :
    Ending.returned (.tuple #[.string a, .bool b]) = .returned (.tuple #[.string (rbS l many), .bool (rbB l many)]) := by rw [h1, h2]
theorem rowsB_le (l : List R3) : (rowsB l).length ≤ 11 + 33 * l.length := by
  unfold rowsB
  rw [List.length_append]
  have h1 := leb_le l.length
  have h2 : ∀ (l : List R3) (x : Int), (rowsBL x l).length ≤ 33 * l.length := by
    intro l
    induction l with
    | nil => intro x; simp [rowsBL]
    | cons r l ih => intro x; have := ih r.t; have := rowB_le x r; simp only [rowsBL, List.length_append, List.length_cons]; omega
  have := h2 l 0
  omega
set_option maxHeartbeats 800000 in
theorem spec_RowsBytes (v : Value) (l : List R3) (many : Int) (w : World) (hr : Rd w w.heap.size v l.length (rcells l)) (hl : l.length ≤ 9223372036854775807) :
    Calls Try.prog 57 #[v, .int .i64 many] w fun e w' => e = .returned (.tuple #[.string (rbS l many), .bool (rbB l many)]) ∧ Below w.heap.size w w' := by
  have Hr := hide hr; clear hr
  go_enter Try.func57, Try.ntmps57
  go_wp2_with fail
  refine (spec_l7Good v l many _ Hr.out hl).mono ?_
  rintro e w1 ⟨rfl, hb1⟩
  by_cases hg : goodRows l many = true
  · rw [hg]
    have hg' := hg
    unfold goodRows at hg'; simp at hg'
    have hl3 : l.length ≤ 300 := hg'.2.1
    have hm3 : many ≤ 300 := by omega
    have hok := rowsOk_of_good hg
    have h11 := rowsB_le l
    have Hg := hide hg; have Hr1 := hide (Hr.out.here hb1); have Hb1 := hide hb1; have Hok := hide hok
    clear hg hg' hb1 hok Hr
    go_wp2_with fail
    refine (spec_l7Bytes v l many _ Hr1.out hl3 Hok.out hm3).mono ?_
    rintro e w2 ⟨rfl, hb2⟩
    have Hr2 := hide (Hr1.out.here hb2); have Hb2 := hide (Hb1.out.trans (hb2.mono Hb1.out.size)); clear hb2 Hr1
    by_cases hs : (rowsB l).length ≤ 2000
    · have Hy := hide (rb_yes Hg.out hs)
      go_wp2_with fail
      refine (spec_l7Bytes v l many _ Hr2.out hl3 Hok.out hm3).mono ?_
      rintro e w3 ⟨rfl, hb3⟩
      have Hb3 := hide (Hb2.out.trans (hb3.mono Hb2.out.size)); clear hb3
      go_wp2
      go_ret2
      exact ⟨ps_rb Hy.out.1 Hy.out.2, Hb3.out⟩
    · have Hn := hide (rb_no (l := l) (many := many) (fun h => hs h.2))
      go_wp2
      go_ret2
      exact ⟨ps_rb Hn.out.1 Hn.out.2, Hb2.out⟩
  · have hgf : goodRows l many = false := by simpa using hg
    rw [hgf]
    have Hn := hide (rb_no (l := l) (many := many) (fun h => hg h.1))
    clear hg hgf
    go_wp2
    go_ret2
    exact ⟨ps_rb Hn.out.1 Hn.out.2, hb1⟩
set_option maxHeartbeats 800000 in
theorem impl_RowsBytes (v : Value) (l : List R3) (many : Int) (w : World) (hr : Rd w w.heap.size v l.length (rcells l)) (hl : l.length ≤ 9223372036854775807) :
    Calls Try.prog 56 #[v, .int .i64 many] w fun e w' => e = .returned (.tuple #[.string (rbS l many), .bool (rbB l many)]) ∧ Below w.heap.size w w' := by
  have Hr := hide hr; clear hr
  go_enter Try.func56, Try.ntmps56
  go_wp2_with fail
  refine (impl_GoodRows v l many _ Hr.out hl).mono ?_
  rintro e w1 ⟨rfl, hb1⟩
  by_cases hg : goodRows l many = true
  · rw [hg]
    have hg' := hg
    unfold goodRows at hg'; simp at hg'
    have hl3 : l.length ≤ 300 := hg'.2.1
    have hm3 : many ≤ 300 := by omega
    have hok := rowsOk_of_good hg
    have h11 := rowsB_le l
    have Hg := hide hg; have Hr1 := hide (Hr.out.here hb1); have Hb1 := hide hb1; have Hok := hide hok
    clear hg hg' hb1 hok Hr
    go_wp2_with fail
    refine (impl_rowsBytes v l many _ Hr1.out hl3 Hok.out hm3).mono ?_
    rintro e w2 ⟨rfl, hb2⟩
    have Hb2 := hide (Hb1.out.trans (hb2.mono Hb1.out.size)); clear hb2 Hr1
    by_cases hs : (rowsB l).length ≤ 2000
    · have Hy := hide (rb_yes Hg.out hs)
      go_wp2
      go_ret2
      exact ⟨ps_rb Hy.out.1 Hy.out.2, Hb2.out⟩
    · have Hn := hide (rb_no (l := l) (many := many) (fun h => hs h.2))
      go_wp2
      go_ret2
      exact ⟨ps_rb Hn.out.1 Hn.out.2, Hb2.out⟩
  · have hgf : goodRows l many = false := by simpa using hg
    rw [hgf]
    have Hn := hide (rb_no (l := l) (many := many) (fun h => hg h.1))
    clear hg hgf
    go_wp2
    go_ret2
    exact ⟨ps_rb Hn.out.1 Hn.out.2, hb1⟩
end Go.Proofs.Ytheddnjhkcpmnaa
