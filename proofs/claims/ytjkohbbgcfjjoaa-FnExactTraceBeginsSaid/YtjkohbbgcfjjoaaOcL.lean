/- FnExactSameOutcome, FnExactTraceBegins: the calls return true. No condition. -/
import Derived.Test.YtjkohbbgcfjjoaaOcS
import Derived.Test.YtjkohbbgcfjjoaaOpen2
import Derived.Test.YtjkohbbgcfjjoaaBlk
import Derived.Lib.SmallJoins
import Derived.Deep.RegionHeld3
import Derived.Deep.RegionWith
set_option linter.unusedSimpArgs false
set_option linter.unusedVariables false
set_option maxRecDepth 100000
namespace Go.Proofs.Ytjkohbbgcfjjoaa
open Go.RowKit Go.WideShapes Go.ChangeShapes

def IsOc (w : World) (v : Value) : Prop := ∃ (o : Oc) (s : Value), v = o.agg s ∧ OcAt w w.heap.size o s
theorem open_outcome {H : Type} {enc : TypeId × Value → H} {w : World} {r : Reach} {b0 : Nat} {v : Value} {d : DataW H} {p : List MemPlace}
    (hv : Value.okWide Try.prog w r b0 31 v) (h : DataW.Trod enc Try.prog w 0 (fun _ => true) true 31 v d p) (_ : ∀ x ∈ p, x.block < w.heap.size) : IsOc w v := by
  obtain ⟨c0, c1, c2, c3, y0, y1, y2, y3, m, rfl, rfl, rfl, h0, h1, h2, h3⟩ := Go.Joins.open_agg4 Try.underlying31 (by kernel_rfl) (by kernel_rfl) hv h
  obtain ⟨a, e0, _, wa⟩ := DataW.trod_int Try.underlying3 h0
  obtain ⟨b, e1, _, wb⟩ := DataW.trod_int Try.underlying3 h1
  obtain ⟨c, e3, _, wc⟩ := DataW.trod_int Try.underlying3 h3
  simp at e0 e1 e3
  subst e0 e1 e3
  obtain ⟨zs, hz, _⟩ := open_ints_at Try.underlying29 Try.underlying3 (by kernel_rfl) h2
  exact ⟨⟨a, b, zs, c⟩, c2, rfl, hz⟩

theorem keep8 {w : World} {g g2 : Nat} {t t2 : TypeId} {a b c d a2 b2 c2 d2 : Value} (h : Bk w g t #[a, b, c, d]) (h2 : Bk w g2 t2 #[a2, b2, c2, d2]) :
    w.cell? ⟨g, 0, none⟩ = some a ∧ w.cell? ⟨g, 1, none⟩ = some b ∧ w.cell? ⟨g, 2, none⟩ = some c ∧ w.cell? ⟨g, 3, none⟩ = some d ∧ w.cell? ⟨g2, 0, none⟩ = some a2 ∧ w.cell? ⟨g2, 1, none⟩ = some b2 ∧ w.cell? ⟨g2, 2, none⟩ = some c2 ∧ w.cell? ⟨g2, 3, none⟩ = some d2 :=
  ⟨h.cell 0, h.cell 1, h.cell 2, h.cell 3, h2.cell 0, h2.cell 1, h2.cell 2, h2.cell 3⟩
set_option maxHeartbeats 1600000 in
theorem law_FnExactSameOutcome (w : World) (v : Value) (h : IsOc w v) (v2 : Value) (h2 : IsOc w v2) :
    Calls Try.prog 4 #[v, v2] w fun e w' => e = .returned (.bool true) ∧ Below w.heap.size w w' := by
  obtain ⟨o, s, rfl, hr⟩ := h
  obtain ⟨o2, s2, rfl, hr2⟩ := h2
  obtain ⟨A, c, rfl, _, hcm, _⟩ := id (show Rd _ _ _ _ _ from hr)
  obtain ⟨A2, c2, rfl, _, hcm2, _⟩ := id (show Rd _ _ _ _ _ from hr2)
  have Hr := hide hr; have Hr2 := hide hr2; clear hr hr2
  have hW := ((Below.refl w.heap.size w).alloc (Nat.le_refl _) (.cells #[.int .i64 o.code, .int .i64 o.value, .slice A o.trace.length c, .int .i64 o.used] 31)).alloc (by simp) (.cells #[.int .i64 o2.code, .int .i64 o2.value, .slice A2 o2.trace.length c2, .int .i64 o2.used] 31)
  have hk1 := (Bk.new w 31 #[.int .i64 o.code, .int .i64 o.value, .slice A o.trace.length c, .int .i64 o.used]).alloc (.cells #[.int .i64 o2.code, .int .i64 o2.value, .slice A2 o2.trace.length c2, .int .i64 o2.used] 31)
  have hk2 := Bk.new (w.alloc (.cells #[.int .i64 o.code, .int .i64 o.value, .slice A o.trace.length c, .int .i64 o.used] 31)) 31 #[.int .i64 o2.code, .int .i64 o2.value, .slice A2 o2.trace.length c2, .int .i64 o2.used]
  rw [World.size_alloc] at hk2
  have HW := hide hW; have K1 := hide hk1; have K2 := hide hk2; clear hW hk1 hk2
  show Calls Try.prog _ #[.agg #[_, _, _, _], .agg #[_, _, _, _]] _ _
  go_enter Try.func4, Try.ntmps4
  go_wp2_with fail
  refine (szOutcome o _ 1048576 _ 0 (Hr.out.go HW.out (Nat.le_refl _) HW.out.size) (by omega) (by omega)).mono ?_
  rintro e w1 ⟨rfl, hb1⟩
  have hk1 := K1.out.below hb1
  have hk2 := K2.out.below hb1
  obtain ⟨p0, p1, p2, p3⟩ := hk1.four
  obtain ⟨q0, q1, q2, q3⟩ := hk2.four
  by_cases g1 : o.trace.length ≤ 1048576
  · rw [if_pos (by omega)]
    have HW1 := hide (HW.out.trans (hb1.mono HW.out.size))
    have K1a := hide hk1; have K2a := hide hk2; clear hb1 hk1 hk2
    go_wp2_with fail
    refine (szOutcome o2 _ _ _ 0 (Hr2.out.go HW1.out (Nat.le_refl _) HW1.out.size) (by omega) (by omega)).mono ?_
    rintro e w2 ⟨rfl, hb2⟩
    clear p0 p1 p2 p3 q0 q1 q2 q3
    have hk1 := K1a.out.below hb2
    have hk2 := K2a.out.below hb2
    obtain ⟨p0, p1, p2, p3⟩ := hk1.four
    obtain ⟨q0, q1, q2, q3⟩ := hk2.four
    by_cases g2 : o2.trace.length ≤ 1048576 - o.trace.length
    · rw [if_pos (by omega)]
      have HW2 := hide (HW1.out.trans (hb2.mono HW1.out.size))
      have K1b := hide hk1; have K2b := hide hk2; clear hb2 hk1 hk2
      go_wp2_with fail
      go_region_held3 (fun w' => w'.cell? ⟨w.heap.size, 0, none⟩ = some (.int .i64 o.code) ∧ w'.cell? ⟨w.heap.size, 1, none⟩ = some (.int .i64 o.value) ∧ w'.cell? ⟨w.heap.size, 2, none⟩ = some (.slice A o.trace.length c) ∧ w'.cell? ⟨w.heap.size, 3, none⟩ = some (.int .i64 o.used) ∧ w'.cell? ⟨w.heap.size + 1, 0, none⟩ = some (.int .i64 o2.code) ∧ w'.cell? ⟨w.heap.size + 1, 1, none⟩ = some (.int .i64 o2.value) ∧ w'.cell? ⟨w.heap.size + 1, 2, none⟩ = some (.slice A2 o2.trace.length c2) ∧ w'.cell? ⟨w.heap.size + 1, 3, none⟩ = some (.int .i64 o2.used)) (first | exact keep8 K1b.out K2b.out | exact keep8 K1c.out K2c.out | exact keep8 K1d.out K2d.out | exact keep8 K1e.out K2e.out)
        (first
          | (go_at_call_of 21 (Value.int .i64 o.code); refine (toOutcome o _ _ (Hr.out.go HW2.out.drew (Nat.le_refl _) HW2.out.size) (by omega)).mono ?_; rintro e w3 ⟨s3, rfl, hown3, hb3⟩; obtain ⟨A3, c3, rfl⟩ := own_form hown3; have HO3 := hide hown3; have K1c := hide (K1b.out.below (w := w2.drew) hb3); have K2c := hide (K2b.out.below (w := w2.drew) hb3); have HW3 := hide (HW2.out.drew.trans (hb3.mono HW2.out.size)); clear hown3 hb3)
          | (go_at_call_of 21 (Value.int .i64 o2.code); refine (toOutcome o2 _ _ (Hr2.out.go HW3.out (Nat.le_refl _) HW3.out.size) (by omega)).mono ?_; rintro e w4 ⟨s4, rfl, hown4, hb4⟩; obtain ⟨A4, c4, rfl⟩ := own_form hown4; have HO4 := hide hown4; have HO3' := hide (own_keep HO3.out hb4); have K1d := hide (K1c.out.below hb4); have K2d := hide (K2c.out.below hb4); have HW4 := hide (HW3.out.trans (hb4.mono HW3.out.size)); clear hown4 hb4)
          | (go_at_call 20; refine (spec_SameOutcome o o2 _ _ _ (Rd.of_own HO3'.out) (Rd.of_own HO4.out)).mono ?_; rintro e w5 ⟨rfl, hb5⟩; have K1e := hide (K1d.out.below hb5); have K2e := hide (K2d.out.below hb5); have HW5 := hide (HW4.out.trans (hb5.mono HW4.out.size)); clear hb5))
      clear p0 p1 p2 p3 q0 q1 q2 q3
      obtain ⟨p0, p1, p2, p3⟩ := K1e.out.four
      obtain ⟨q0, q1, q2, q3⟩ := K2e.out.four
      go_wp2_with fail
      refine (toOutcome o _ _ (Hr.out.go HW5.out (Nat.le_refl _) HW5.out.size) (by omega)).mono ?_
      rintro e w6 ⟨s6, rfl, hown6, hb6⟩
      obtain ⟨A6, c6, rfl⟩ := own_form hown6
      have HO6 := hide hown6; have HW6 := hide (HW5.out.trans (hb6.mono HW5.out.size))
      have K1f := hide (K1e.out.below hb6); have K2f := hide (K2e.out.below hb6)
      clear p0 p1 p2 p3 q0 q1 q2 q3 hown6 hb6
      obtain ⟨p0, p1, p2, p3⟩ := (K1f.out.alloc (.cells #[.int .i64 o.code, .int .i64 o.value, .slice A6 o.trace.length c6, .int .i64 o.used] 34)).four
      obtain ⟨q0, q1, q2, q3⟩ := (K2f.out.alloc (.cells #[.int .i64 o.code, .int .i64 o.value, .slice A6 o.trace.length c6, .int .i64 o.used] 34)).four
      have X0 := hide (Bk.new w6 34 #[.int .i64 o.code, .int .i64 o.value, .slice A6 o.trace.length c6, .int .i64 o.used])
      have HW6' := hide (HW6.out.alloc HW6.out.size (.cells #[.int .i64 o.code, .int .i64 o.value, .slice A6 o.trace.length c6, .int .i64 o.used] 34))
      have K1g := hide (K1f.out.alloc (.cells #[.int .i64 o.code, .int .i64 o.value, .slice A6 o.trace.length c6, .int .i64 o.used] 34)); have K2g := hide (K2f.out.alloc (.cells #[.int .i64 o.code, .int .i64 o.value, .slice A6 o.trace.length c6, .int .i64 o.used] 34))
      have HO6' := hide (own_keep HO6.out ((Below.refl _ _).alloc (Nat.le_refl _) (.cells #[.int .i64 o.code, .int .i64 o.value, .slice A6 o.trace.length c6, .int .i64 o.used] 34)))
      go_wp2_with fail
      refine (toOutcome o2 _ _ (Hr2.out.go HW6'.out (Nat.le_refl _) HW6'.out.size) (by omega)).mono ?_
      rintro e w7 ⟨s7, rfl, hown7, hb7⟩
      obtain ⟨A7, c7, rfl⟩ := own_form hown7
      have HO7 := hide (own_keep hown7 ((Below.refl _ _).alloc (Nat.le_refl _) (.cells #[.int .i64 o2.code, .int .i64 o2.value, .slice A7 o2.trace.length c7, .int .i64 o2.used] 34))); have HO67 := hide (own_keep (own_keep HO6'.out hb7) ((Below.refl _ _).alloc (Nat.le_refl _) (.cells #[.int .i64 o2.code, .int .i64 o2.value, .slice A7 o2.trace.length c7, .int .i64 o2.used] 34)))
      have HW7 := hide ((HW6'.out.trans (hb7.mono HW6'.out.size)).alloc (HW6'.out.trans (hb7.mono HW6'.out.size)).size (.cells #[.int .i64 o2.code, .int .i64 o2.value, .slice A7 o2.trace.length c7, .int .i64 o2.used] 34))
      have K1h := hide ((K1g.out.below hb7).alloc (.cells #[.int .i64 o2.code, .int .i64 o2.value, .slice A7 o2.trace.length c7, .int .i64 o2.used] 34)); have K2h := hide ((K2g.out.below hb7).alloc (.cells #[.int .i64 o2.code, .int .i64 o2.value, .slice A7 o2.trace.length c7, .int .i64 o2.used] 34))
      have X0h := hide ((X0.out.below hb7).alloc (.cells #[.int .i64 o2.code, .int .i64 o2.value, .slice A7 o2.trace.length c7, .int .i64 o2.used] 34)); have X1h := hide (Bk.new w7 34 #[.int .i64 o2.code, .int .i64 o2.value, .slice A7 o2.trace.length c7, .int .i64 o2.used])
      have hsz : w6.heap.size < w7.heap.size := by have := hb7.size; rw [World.size_alloc] at this; omega
      clear p0 p1 p2 p3 q0 q1 q2 q3 hown7 hb7
      obtain ⟨p0, p1, p2, p3⟩ := X0h.out.four
      go_wp2_with fail
      refine (impl_SameOutcome o o2 _ _ _ (Rd.of_own HO67.out) (Rd.of_own HO7.out)).mono ?_
      rintro e w8 ⟨rfl, hb8⟩
      have HO8 := hide (own_keep HO67.out hb8); have HO9 := hide (own_keep HO7.out hb8)
      have HW8 := hide (HW7.out.trans (hb8.mono HW7.out.size))
      have K1i := hide (K1h.out.below hb8); have K2i := hide (K2h.out.below hb8); have X0i := hide (X0h.out.below hb8); have X1i := hide (X1h.out.below hb8)
      clear p0 p1 p2 p3 hb8
      go_wp2_with fail
      go_region_held3 (fun w' => w'.cell? ⟨w6.heap.size, 0, none⟩ = some (.int .i64 o.code) ∧ w'.cell? ⟨w6.heap.size, 1, none⟩ = some (.int .i64 o.value) ∧ w'.cell? ⟨w6.heap.size, 2, none⟩ = some (.slice A6 o.trace.length c6) ∧ w'.cell? ⟨w6.heap.size, 3, none⟩ = some (.int .i64 o.used) ∧ w'.cell? ⟨w.heap.size, 0, none⟩ = some (.int .i64 o.code) ∧ w'.cell? ⟨w.heap.size, 1, none⟩ = some (.int .i64 o.value) ∧ w'.cell? ⟨w.heap.size, 2, none⟩ = some (.slice A o.trace.length c) ∧ w'.cell? ⟨w.heap.size, 3, none⟩ = some (.int .i64 o.used)) (first | exact keep8 X0i.out K1i.out | exact keep8 X0j.out K1j.out | exact keep8 X0k.out K1k.out)
        (first
          | (go_at_call_of 21 (Value.int .i64 o.code); refine (toOutcome o _ _ (Hr.out.go HW8.out.drew (Nat.le_refl _) HW8.out.size) (by omega)).mono ?_; rintro e w9 ⟨s9, rfl, hown9, hb9⟩; obtain ⟨A9, c9, rfl⟩ := own_form hown9; have HO10 := hide hown9; have HO8' := hide (own_keep (W := w8.drew) HO8.out hb9); have HO9' := hide (own_keep (W := w8.drew) HO9.out hb9); have K1j := hide (K1i.out.below (w := w8.drew) hb9); have K2j := hide (K2i.out.below (w := w8.drew) hb9); have X0j := hide (X0i.out.below (w := w8.drew) hb9); have X1j := hide (X1i.out.below (w := w8.drew) hb9); have HW9 := hide (HW8.out.drew.trans (hb9.mono HW8.out.size)); clear hown9 hb9)
          | (go_at_call 23; refine (eqOutcome o _ _ _ (Rd.of_own HO8'.out) (Rd.of_own HO10.out)).mono ?_; rintro e w10 ⟨rfl, hb10⟩; have HO9k := hide (own_keep HO9'.out hb10); have K1k := hide (K1j.out.below hb10); have K2k := hide (K2j.out.below hb10); have X0k := hide (X0j.out.below hb10); have X1k := hide (X1j.out.below hb10); have HW10 := hide (HW9.out.trans (hb10.mono HW9.out.size)); clear hb10))
      go_wp2_with fail
      go_region_held3 (fun w' => w'.cell? ⟨w7.heap.size, 0, none⟩ = some (.int .i64 o2.code) ∧ w'.cell? ⟨w7.heap.size, 1, none⟩ = some (.int .i64 o2.value) ∧ w'.cell? ⟨w7.heap.size, 2, none⟩ = some (.slice A7 o2.trace.length c7) ∧ w'.cell? ⟨w7.heap.size, 3, none⟩ = some (.int .i64 o2.used) ∧ w'.cell? ⟨w.heap.size + 1, 0, none⟩ = some (.int .i64 o2.code) ∧ w'.cell? ⟨w.heap.size + 1, 1, none⟩ = some (.int .i64 o2.value) ∧ w'.cell? ⟨w.heap.size + 1, 2, none⟩ = some (.slice A2 o2.trace.length c2) ∧ w'.cell? ⟨w.heap.size + 1, 3, none⟩ = some (.int .i64 o2.used)) (first | exact keep8 X1k.out K2k.out | exact keep8 X1l.out K2l.out | exact keep8 X1m.out K2m.out)
        (first
          | (go_at_call_of 21 (Value.int .i64 o2.code); refine (toOutcome o2 _ _ (Hr2.out.go HW10.out.drew (Nat.le_refl _) HW10.out.size) (by omega)).mono ?_; rintro e w11 ⟨s11, rfl, hown11, hb11⟩; obtain ⟨A11, c11, rfl⟩ := own_form hown11; have HO11 := hide hown11; have HO9l := hide (own_keep (W := w10.drew) HO9k.out hb11); have K2l := hide (K2k.out.below (w := w10.drew) hb11); have X1l := hide (X1k.out.below (w := w10.drew) hb11); have HW11 := hide (HW10.out.drew.trans (hb11.mono HW10.out.size)); clear hown11 hb11)
          | (go_at_call 23; refine (eqOutcome o2 _ _ _ (Rd.of_own HO9l.out) (Rd.of_own HO11.out)).mono ?_; rintro e w12 ⟨rfl, hb12⟩; have K2m := hide (K2l.out.below hb12); have X1m := hide (X1l.out.below hb12); have HW12 := hide (HW11.out.trans (hb12.mono HW11.out.size)); clear hb12))
      go_wp2_with fail
      go_ret
      exact ⟨rfl, HW12.out⟩
    · rw [if_neg (by omega)]
      have HW2 := hide (HW1.out.trans (hb2.mono HW1.out.size))
      go_wp2
      go_ret
      exact ⟨rfl, HW2.out⟩
  · rw [if_neg (by omega)]
    have HW1 := hide (HW.out.trans (hb1.mono HW.out.size))
    go_wp2
    go_ret
    exact ⟨rfl, HW1.out⟩
end Go.Proofs.Ytjkohbbgcfjjoaa
