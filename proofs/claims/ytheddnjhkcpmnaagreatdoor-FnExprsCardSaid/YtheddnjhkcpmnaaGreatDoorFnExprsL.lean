
/- FnExprs: the call returns true. Conditions: the library's variables hold something of their kinds; the words and the table lie where the program lays them. -/
import Derived.Test.YtheddnjhkcpmnaaGreatDoorFeQ
import Derived.Test.YtheddnjhkcpmnaaGreatDoorFe1
import Derived.Test.YtheddnjhkcpmnaaGreatDoorExn
import Derived.Test.YtheddnjhkcpmnaaGreatDoorBigM
import Derived.Test.YtheddnjhkcpmnaaGreatDoorReadExprL
set_option linter.unusedSimpArgs false
set_option linter.unusedVariables false
set_option maxRecDepth 100000
namespace Go.Proofs.YtheddnjhkcpmnaaGreatDoor
open Go.RowKit Go.Lib

set_option maxHeartbeats 64000000 in
theorem law_FnExprs (w : World) (v1 : Value) (i1 : IsU8s w v1) (v2 : Value) (i2 : IsU8s w v2) (hm : MaxL w) (hgm : 4 < w.heap.size) (hp : P10 w) (hg : 3 < w.heap.size) (hw : ExWs w) (he : ErrV w) :
    Calls Tryz.prog 3 #[v1, v2] w fun e w' => e = .returned (.bool true) ∧ Below w.heap.size w w' := by
  obtain ⟨z1, hr1, hz1⟩ := i1
  obtain ⟨z2, hr2, hz2⟩ := i2
  have hy1 : ∀ z ∈ z1, 0 ≤ z ∧ z ≤ 255 := fun z h => bd_u8 (hz1 z h)
  have hy2 : ∀ z ∈ z2, 0 ≤ z ∧ z ≤ 255 := fun z h => bd_u8 (hz2 z h)
  have hd1 := fun W (hW : Below w.heap.size w W) => spec_DrawExprText _ z1 W (hr1.here hW) hy1
  have hd2 := fun W (hW : Below w.heap.size w W) => spec_DrawReadExpr _ z2 W (hr2.here hW) hy2
  have hd3 := fun W (hW : Below w.heap.size w W) => spec_DrawHighOf _ z2 W (hr2.here hW) hy2
  have hd4 := fun W (hW : Below w.heap.size w W) => spec_DrawGoodExpr _ z2 W (hr2.here hW) hy2
  have hd5 := fun W (hW : Below w.heap.size w W) => spec_DrawNeedsOf _ z2 W (hr2.here hW) hy2
  have hix : ∀ v l W, Rd W W.heap.size v l.length (pcells l) → l.length ≤ 1000 → Below w.heap.size w W → Calls Tryz.prog 6 #[v] W fun e w' => e = .returned (.tuple #[.string (txS l), .bool (exprOk l)]) ∧ Below W.heap.size W w' := fun v l W hr hl hW => impl_ExprText v l W hr (by omega) (hp.belowE hW hg) (Nat.lt_of_lt_of_le hg hW.size) (hw.below hW)
  have hsx : ∀ v l W, Rd W W.heap.size v l.length (pcells l) → l.length ≤ 1000 → Calls Tryz.prog 7 #[v] W fun e w' => e = .returned (.tuple #[.string (txS l), .bool (exprOk l)]) ∧ Below W.heap.size W w' := fun v l W hr hl => spec_ExprText v l W hr (by omega)
  have hir : ∀ (s : ByteArray) W, s.size ≤ 1000 → Below w.heap.size w W → Calls Tryz.prog 8 #[.string s] W fun e w' => ∃ v', e = .returned (.tuple #[v', .bool (rdB s.data.toList)]) ∧ w'.ownsRow W.heap.size 40 2 v' (rdL s.data.toList).length (pcells (rdL s.data.toList)) ∧ Below W.heap.size W w' := fun s W hs hW => impl_ReadExpr s (by omega) W (hm.below hgm hW) (hp.belowE hW hg) (Nat.lt_of_lt_of_le hg hW.size) (hw.below hW) (he.below hW)
  have hsr : ∀ (s : ByteArray) W, s.size ≤ 1000 → Calls Tryz.prog 11 #[.string s] W fun e w' => ∃ v', e = .returned (.tuple #[v', .bool (rdB s.data.toList)]) ∧ w'.ownsRow W.heap.size 40 2 v' (rdL s.data.toList).length (pcells (rdL s.data.toList)) ∧ Below W.heap.size W w' := fun s W hs => spec_ReadExpr s (by omega) W
  obtain ⟨A1, c1, rfl, p1, p2, _⟩ := id hr1
  obtain ⟨A2, c2, rfl, p3, p4, _⟩ := id hr2
  have hB := fun W => laws_big A1 A2 c1 c2 z1.length z2.length (by unfold maxLen at p2; omega) (by unfold maxLen at p4; omega) W
  have D1 := Lib.hid hd1; have D2 := Lib.hid hd2; have D3 := Lib.hid hd3; have D4 := Lib.hid hd4; have D5 := Lib.hid hd5
  have IX := Lib.hid hix; have SX := Lib.hid hsx; have IR := Lib.hid hir; have SR := Lib.hid hsr
  clear hr1 hr2 hz1 hz2 hy1 hy2 hd1 hd2 hd3 hd4 hd5 p1 p2 p3 p4 hix hsx hir hsr hm hp hw he
  cases hbig : bigB z1.length z2.length
  case true =>
    simp only [hbig] at hB
    have HB := Lib.hid hB
    clear hB hbig D1 D2 D3 D4 D5 IX SX IR SR
    go_enter Tryz.func3, Tryz.ntmps3
    go_wp2_with (go_at_call 4; refine (HB.out _).mono ?_; rintro e w1 ⟨rfl, rfl⟩)
    go_ret
    exact ⟨rfl, Below.refl _ _⟩
  simp only [hbig] at hB
  have HB := Lib.hid hB; have Hb := hide (Below.refl w.heap.size w)
  clear hB hbig
  go_enter Tryz.func3, Tryz.ntmps3
  go_upto_region 4 with (first
    | (go_at_call 4; refine (HB.out _).mono ?_; rintro e w1 ⟨rfl, rfl⟩)
    | (go_at_call 5; refine (D1.out _ Hb.out).mono ?_; rintro e w1 ⟨v, l, rfl, hr, hl, hb⟩; have Hr := hide hr; have Hb := hide (Hb.out.trans (hb.mono Hb.out.size)); clear hr hb))
  have hsz := txS_size l
  have hi4 := fun W hr hW => IX.out v l W hr (by omega) hW
  have hs4 := fun W hr => SX.out v l W hr (by omega)
  have hrd := IR.out (txS l) 
  have hback := @tx_back l
  generalize txS l = S at *
  clear HB D1
  cases hx : exprOk l
  · simp only [hx] at hi4 hs4
    have I4 := Lib.hid hi4; have S4 := Lib.hid hs4
    clear hi4 hs4 hrd hback hx
    go_upto_region 12 with (first
      | (go_at_call 6; refine (I4.out _ Hr.out Hb.out).mono ?_; rintro e w2 ⟨rfl, hb⟩; have Hr := hide (Hr.out.here hb); have Hb := hide (Hb.out.trans (hb.mono Hb.out.size)); clear hb)
      | (go_at_call 7; refine (S4.out _ Hr.out).mono ?_; rintro e w3 ⟨rfl, hb⟩; have Hr := hide (Hr.out.here hb); have Hb := hide (Hb.out.trans (hb.mono Hb.out.size)); clear hb))
    -- REST
    go_upto_region 13 with (go_at_call 10; refine (D2.out _ Hb.out).mono ?_; rintro e w6 ⟨tx, rfl, htx, hb⟩; have Hb := hide (Hb.out.trans (hb.mono Hb.out.size)); clear hb)
    have hir := fun W hW => IR.out tx W htx hW
    have hsr := fun W => SR.out tx W htx
    have hxb := @rx_back tx
    have hxl := rdL_len tx.data.toList
    generalize rdL tx.data.toList = X at *
    cases h1 : rdB tx.data.toList
    · simp only [h1] at hir hsr
      have IR5 := Lib.hid hir; have SR5 := Lib.hid hsr
      clear hir hsr hxb h1
      go_upto_region 21 with (first
        | (go_at_call 8; refine (IR5.out _ Hb.out).mono ?_; rintro e w7 ⟨x1, rfl, ho, hb⟩; have Hx1 := hide (Rd.of_own ho); have Hb := hide (Hb.out.trans (hb.mono Hb.out.size)); clear ho hb)
        | (go_at_call 11; refine (SR5.out _).mono ?_; rintro e w8 ⟨x2, rfl, ho, hb⟩; have Hx2 := hide (Rd.of_own ho); have Hx1 := hide (Hx1.out.here hb); have Hb := hide (Hb.out.trans (hb.mono Hb.out.size)); clear ho hb)
        | (go_at_call 9; refine (laws_sameToks _ _ X _ Hx1.out Hx2.out (by omega)).mono ?_; rintro e w9 ⟨rfl, hb⟩; have Hx1 := hide (Hx1.out.here hb); have Hb := hide (Hb.out.trans (hb.mono Hb.out.size)); clear hb))
      go_upto_region 22 with (go_at_call 12; refine (D3.out _ Hb.out).mono ?_; rintro e w20 ⟨v3, l3, u3, rfl, hr, hl3, hu, hb⟩; have Hd1 := hide hr; have Hu1 := hide hu; have Hb := hide (Hb.out.trans (hb.mono Hb.out.size)); clear hr hu hb)
      obtain ⟨Ad, cd, rfl, _, _, _⟩ := id Hd1.out
      have hhi := fun W h1 h2 => impl_HighOf (.slice Ad l3.length cd) l3 u3 [1, 0, 2] W h1 h2
      have hhs := fun W h1 h2 => spec_HighOf (.slice Ad l3.length cd) l3 u3 [1, 0, 2] W h1 h2
      have hlaw := @highR_law l3 [1, 0, 2]
      generalize highR l3 [1, 0, 2] = H at *
      cases hh : highB l3 [1, 0, 2]
      · simp only [hh] at hhi hhs
        have HI := Lib.hid hhi; have HS := Lib.hid hhs
        clear hhi hhs hlaw hh
        go_upto_region 28 with (first
          | (go_at_call 13; refine (HI.out _ Hd1.out Hu1.out).mono ?_; rintro e w21 ⟨rfl, hb⟩; (try have Hd1 := hide (Hd1.out.here hb)); (try have Hu1 := hide (Hu1.out.here hb)); (try have Hf1 := hide (Hf1.out.here hb)); (try have Hf2 := hide (Hf2.out.here hb)); (try have Hn1 := hide (Hn1.out.here hb)); have Hb := hide (Hb.out.trans (hb.mono Hb.out.size)); clear hb)
          | (go_at_call 14; refine (HS.out _ Hd1.out Hu1.out).mono ?_; rintro e w22 ⟨rfl, hb⟩; (try have Hd1 := hide (Hd1.out.here hb)); (try have Hu1 := hide (Hu1.out.here hb)); (try have Hf1 := hide (Hf1.out.here hb)); (try have Hf2 := hide (Hf2.out.here hb)); (try have Hn1 := hide (Hn1.out.here hb)); have Hb := hide (Hb.out.trans (hb.mono Hb.out.size)); clear hb)
          | (go_at_call 15; refine (D4.out _ Hb.out).mono ?_; rintro e w23 ⟨v4, l4, n4, u4, rfl, hr, hl4, hn4, hu, hb⟩; (have Hf1 := hide hr); (have Hf2 := hide hu); have Hb := hide (Hb.out.trans (hb.mono Hb.out.size)); clear hr hu hb)
          | (go_at_call 16; refine (D5.out _ Hb.out).mono ?_; rintro e w24 ⟨o5, n5, u5a, l5, rfl, hr, hb⟩; (have Hf1 := hide ((Hf1.out.here hb).alloc (.cells #[.int .i64 o5, .int .i64 n5] 40))); (have Hf2 := hide ((Hf2.out.here hb).alloc (.cells #[.int .i64 o5, .int .i64 n5] 40))); (have Hn1 := hide (Rd.alloc hr (.cells #[.int .i64 o5, .int .i64 n5] 40))); have Hk := hide (Bk.new w24 40 #[.int .i64 o5, .int .i64 n5]); have Hb := hide ((Hb.out.trans (hb.mono Hb.out.size)).alloc (Hb.out.trans (hb.mono Hb.out.size)).size (.cells #[.int .i64 o5, .int .i64 n5] 40)); clear hr hb)
          | (go_at_call 17; refine (impl_NeedsOf _ _ _ _ _ Hn1.out).mono ?_; rintro e w25 ⟨rfl, hb⟩; (have Hf1 := hide (Hf1.out.here hb)); (have Hf2 := hide (Hf2.out.here hb)); (have Hn1 := hide (Hn1.out.here hb)); have Hk := hide (Hk.out.below hb); have k0 := Hk.out.cell 0; have k1 := Hk.out.cell 1; have kl := Hk.out.lt; have Hb := hide (Hb.out.trans (hb.mono Hb.out.size)); clear hb)
          | (go_at_call 18; refine (spec_NeedsOf _ _ _ _ _ Hn1.out).mono ?_; rintro e w26 ⟨rfl, hb⟩; (have Hf1 := hide (Hf1.out.here hb)); (have Hf2 := hide (Hf2.out.here hb)); have Hb := hide (Hb.out.trans (hb.mono Hb.out.size)); clear hb))
        go_wp2_with (first
          | (go_at_call 19; refine (impl_GoodExpr _ _ _ _ [1, 0, 2] _ Hf1.out Hf2.out).mono ?_; rintro e w27 ⟨rfl, hb⟩; (have Hf1 := hide (Hf1.out.here hb)); (have Hf2 := hide (Hf2.out.here hb)); have Hb := hide (Hb.out.trans (hb.mono Hb.out.size)); clear hb)
          | (go_at_call 20; refine (spec_GoodExpr _ _ _ _ [1, 0, 2] _ Hf1.out Hf2.out).mono ?_; rintro e w28 ⟨rfl, hb⟩; have Hb := hide (Hb.out.trans (hb.mono Hb.out.size)); clear hb))
        go_ret
        exact ⟨rfl, Hb.out⟩
      · simp only [hh] at hhi hhs
        obtain ⟨hl1, hl2⟩ := hlaw hh
        have HI := Lib.hid hhi; have HS := Lib.hid hhs
        clear hhi hhs hlaw hh
        go_upto_region 28 with (first
          | (go_at_call 13; refine (HI.out _ Hd1.out Hu1.out).mono ?_; rintro e w21 ⟨rfl, hb⟩; (try have Hd1 := hide (Hd1.out.here hb)); (try have Hu1 := hide (Hu1.out.here hb)); (try have Hf1 := hide (Hf1.out.here hb)); (try have Hf2 := hide (Hf2.out.here hb)); (try have Hn1 := hide (Hn1.out.here hb)); have Hb := hide (Hb.out.trans (hb.mono Hb.out.size)); clear hb)
          | (go_at_call 14; refine (HS.out _ Hd1.out Hu1.out).mono ?_; rintro e w22 ⟨rfl, hb⟩; (try have Hd1 := hide (Hd1.out.here hb)); (try have Hu1 := hide (Hu1.out.here hb)); (try have Hf1 := hide (Hf1.out.here hb)); (try have Hf2 := hide (Hf2.out.here hb)); (try have Hn1 := hide (Hn1.out.here hb)); have Hb := hide (Hb.out.trans (hb.mono Hb.out.size)); clear hb)
          | (go_at_call 15; refine (D4.out _ Hb.out).mono ?_; rintro e w23 ⟨v4, l4, n4, u4, rfl, hr, hl4, hn4, hu, hb⟩; (have Hf1 := hide hr); (have Hf2 := hide hu); have Hb := hide (Hb.out.trans (hb.mono Hb.out.size)); clear hr hu hb)
          | (go_at_call 16; refine (D5.out _ Hb.out).mono ?_; rintro e w24 ⟨o5, n5, u5a, l5, rfl, hr, hb⟩; (have Hf1 := hide ((Hf1.out.here hb).alloc (.cells #[.int .i64 o5, .int .i64 n5] 40))); (have Hf2 := hide ((Hf2.out.here hb).alloc (.cells #[.int .i64 o5, .int .i64 n5] 40))); (have Hn1 := hide (Rd.alloc hr (.cells #[.int .i64 o5, .int .i64 n5] 40))); have Hk := hide (Bk.new w24 40 #[.int .i64 o5, .int .i64 n5]); have Hb := hide ((Hb.out.trans (hb.mono Hb.out.size)).alloc (Hb.out.trans (hb.mono Hb.out.size)).size (.cells #[.int .i64 o5, .int .i64 n5] 40)); clear hr hb)
          | (go_at_call 17; refine (impl_NeedsOf _ _ _ _ _ Hn1.out).mono ?_; rintro e w25 ⟨rfl, hb⟩; (have Hf1 := hide (Hf1.out.here hb)); (have Hf2 := hide (Hf2.out.here hb)); (have Hn1 := hide (Hn1.out.here hb)); have Hk := hide (Hk.out.below hb); have k0 := Hk.out.cell 0; have k1 := Hk.out.cell 1; have kl := Hk.out.lt; have Hb := hide (Hb.out.trans (hb.mono Hb.out.size)); clear hb)
          | (go_at_call 18; refine (spec_NeedsOf _ _ _ _ _ Hn1.out).mono ?_; rintro e w26 ⟨rfl, hb⟩; (have Hf1 := hide (Hf1.out.here hb)); (have Hf2 := hide (Hf2.out.here hb)); have Hb := hide (Hb.out.trans (hb.mono Hb.out.size)); clear hb))
        go_wp2_with (first
          | (go_at_call 19; refine (impl_GoodExpr _ _ _ _ [1, 0, 2] _ Hf1.out Hf2.out).mono ?_; rintro e w27 ⟨rfl, hb⟩; (have Hf1 := hide (Hf1.out.here hb)); (have Hf2 := hide (Hf2.out.here hb)); have Hb := hide (Hb.out.trans (hb.mono Hb.out.size)); clear hb)
          | (go_at_call 20; refine (spec_GoodExpr _ _ _ _ [1, 0, 2] _ Hf1.out Hf2.out).mono ?_; rintro e w28 ⟨rfl, hb⟩; have Hb := hide (Hb.out.trans (hb.mono Hb.out.size)); clear hb))
        go_ret
        exact ⟨rfl, Hb.out⟩
    · simp only [h1] at hir hsr
      obtain ⟨g1, g2⟩ := hxb h1
      have hi5 := fun v W h1 hW => IX.out v X W h1 (by omega) hW
      rw [g1, g2] at hi5
      have I5 := Lib.hid hi5
      have IR5 := Lib.hid hir; have SR5 := Lib.hid hsr
      clear hir hsr hxb h1 g1 g2 hi5
      go_upto_region 21 with (first
        | (go_at_call 8; refine (IR5.out _ Hb.out).mono ?_; rintro e w7 ⟨x1, rfl, ho, hb⟩; have Hx1 := hide (Rd.of_own ho); have Hb := hide (Hb.out.trans (hb.mono Hb.out.size)); clear ho hb)
        | (go_at_call 11; refine (SR5.out _).mono ?_; rintro e w8 ⟨x2, rfl, ho, hb⟩; have Hx2 := hide (Rd.of_own ho); have Hx1 := hide (Hx1.out.here hb); have Hb := hide (Hb.out.trans (hb.mono Hb.out.size)); clear ho hb)
        | (go_at_call 9; refine (laws_sameToks _ _ X _ Hx1.out Hx2.out (by omega)).mono ?_; rintro e w9 ⟨rfl, hb⟩; have Hx1 := hide (Hx1.out.here hb); have Hb := hide (Hb.out.trans (hb.mono Hb.out.size)); clear hb)
        | (go_at_call 6; refine (I5.out _ _ Hx1.out Hb.out).mono ?_; rintro e w10 ⟨rfl, hb⟩; have Hb := hide (Hb.out.trans (hb.mono Hb.out.size)); clear hb))
      go_upto_region 22 with (go_at_call 12; refine (D3.out _ Hb.out).mono ?_; rintro e w20 ⟨v3, l3, u3, rfl, hr, hl3, hu, hb⟩; have Hd1 := hide hr; have Hu1 := hide hu; have Hb := hide (Hb.out.trans (hb.mono Hb.out.size)); clear hr hu hb)
      obtain ⟨Ad, cd, rfl, _, _, _⟩ := id Hd1.out
      have hhi := fun W h1 h2 => impl_HighOf (.slice Ad l3.length cd) l3 u3 [1, 0, 2] W h1 h2
      have hhs := fun W h1 h2 => spec_HighOf (.slice Ad l3.length cd) l3 u3 [1, 0, 2] W h1 h2
      have hlaw := @highR_law l3 [1, 0, 2]
      generalize highR l3 [1, 0, 2] = H at *
      cases hh : highB l3 [1, 0, 2]
      · simp only [hh] at hhi hhs
        have HI := Lib.hid hhi; have HS := Lib.hid hhs
        clear hhi hhs hlaw hh
        go_upto_region 28 with (first
          | (go_at_call 13; refine (HI.out _ Hd1.out Hu1.out).mono ?_; rintro e w21 ⟨rfl, hb⟩; (try have Hd1 := hide (Hd1.out.here hb)); (try have Hu1 := hide (Hu1.out.here hb)); (try have Hf1 := hide (Hf1.out.here hb)); (try have Hf2 := hide (Hf2.out.here hb)); (try have Hn1 := hide (Hn1.out.here hb)); have Hb := hide (Hb.out.trans (hb.mono Hb.out.size)); clear hb)
          | (go_at_call 14; refine (HS.out _ Hd1.out Hu1.out).mono ?_; rintro e w22 ⟨rfl, hb⟩; (try have Hd1 := hide (Hd1.out.here hb)); (try have Hu1 := hide (Hu1.out.here hb)); (try have Hf1 := hide (Hf1.out.here hb)); (try have Hf2 := hide (Hf2.out.here hb)); (try have Hn1 := hide (Hn1.out.here hb)); have Hb := hide (Hb.out.trans (hb.mono Hb.out.size)); clear hb)
          | (go_at_call 15; refine (D4.out _ Hb.out).mono ?_; rintro e w23 ⟨v4, l4, n4, u4, rfl, hr, hl4, hn4, hu, hb⟩; (have Hf1 := hide hr); (have Hf2 := hide hu); have Hb := hide (Hb.out.trans (hb.mono Hb.out.size)); clear hr hu hb)
          | (go_at_call 16; refine (D5.out _ Hb.out).mono ?_; rintro e w24 ⟨o5, n5, u5a, l5, rfl, hr, hb⟩; (have Hf1 := hide ((Hf1.out.here hb).alloc (.cells #[.int .i64 o5, .int .i64 n5] 40))); (have Hf2 := hide ((Hf2.out.here hb).alloc (.cells #[.int .i64 o5, .int .i64 n5] 40))); (have Hn1 := hide (Rd.alloc hr (.cells #[.int .i64 o5, .int .i64 n5] 40))); have Hk := hide (Bk.new w24 40 #[.int .i64 o5, .int .i64 n5]); have Hb := hide ((Hb.out.trans (hb.mono Hb.out.size)).alloc (Hb.out.trans (hb.mono Hb.out.size)).size (.cells #[.int .i64 o5, .int .i64 n5] 40)); clear hr hb)
          | (go_at_call 17; refine (impl_NeedsOf _ _ _ _ _ Hn1.out).mono ?_; rintro e w25 ⟨rfl, hb⟩; (have Hf1 := hide (Hf1.out.here hb)); (have Hf2 := hide (Hf2.out.here hb)); (have Hn1 := hide (Hn1.out.here hb)); have Hk := hide (Hk.out.below hb); have k0 := Hk.out.cell 0; have k1 := Hk.out.cell 1; have kl := Hk.out.lt; have Hb := hide (Hb.out.trans (hb.mono Hb.out.size)); clear hb)
          | (go_at_call 18; refine (spec_NeedsOf _ _ _ _ _ Hn1.out).mono ?_; rintro e w26 ⟨rfl, hb⟩; (have Hf1 := hide (Hf1.out.here hb)); (have Hf2 := hide (Hf2.out.here hb)); have Hb := hide (Hb.out.trans (hb.mono Hb.out.size)); clear hb))
        go_wp2_with (first
          | (go_at_call 19; refine (impl_GoodExpr _ _ _ _ [1, 0, 2] _ Hf1.out Hf2.out).mono ?_; rintro e w27 ⟨rfl, hb⟩; (have Hf1 := hide (Hf1.out.here hb)); (have Hf2 := hide (Hf2.out.here hb)); have Hb := hide (Hb.out.trans (hb.mono Hb.out.size)); clear hb)
          | (go_at_call 20; refine (spec_GoodExpr _ _ _ _ [1, 0, 2] _ Hf1.out Hf2.out).mono ?_; rintro e w28 ⟨rfl, hb⟩; have Hb := hide (Hb.out.trans (hb.mono Hb.out.size)); clear hb))
        go_ret
        exact ⟨rfl, Hb.out⟩
      · simp only [hh] at hhi hhs
        obtain ⟨hl1, hl2⟩ := hlaw hh
        have HI := Lib.hid hhi; have HS := Lib.hid hhs
        clear hhi hhs hlaw hh
        go_upto_region 28 with (first
          | (go_at_call 13; refine (HI.out _ Hd1.out Hu1.out).mono ?_; rintro e w21 ⟨rfl, hb⟩; (try have Hd1 := hide (Hd1.out.here hb)); (try have Hu1 := hide (Hu1.out.here hb)); (try have Hf1 := hide (Hf1.out.here hb)); (try have Hf2 := hide (Hf2.out.here hb)); (try have Hn1 := hide (Hn1.out.here hb)); have Hb := hide (Hb.out.trans (hb.mono Hb.out.size)); clear hb)
          | (go_at_call 14; refine (HS.out _ Hd1.out Hu1.out).mono ?_; rintro e w22 ⟨rfl, hb⟩; (try have Hd1 := hide (Hd1.out.here hb)); (try have Hu1 := hide (Hu1.out.here hb)); (try have Hf1 := hide (Hf1.out.here hb)); (try have Hf2 := hide (Hf2.out.here hb)); (try have Hn1 := hide (Hn1.out.here hb)); have Hb := hide (Hb.out.trans (hb.mono Hb.out.size)); clear hb)
          | (go_at_call 15; refine (D4.out _ Hb.out).mono ?_; rintro e w23 ⟨v4, l4, n4, u4, rfl, hr, hl4, hn4, hu, hb⟩; (have Hf1 := hide hr); (have Hf2 := hide hu); have Hb := hide (Hb.out.trans (hb.mono Hb.out.size)); clear hr hu hb)
          | (go_at_call 16; refine (D5.out _ Hb.out).mono ?_; rintro e w24 ⟨o5, n5, u5a, l5, rfl, hr, hb⟩; (have Hf1 := hide ((Hf1.out.here hb).alloc (.cells #[.int .i64 o5, .int .i64 n5] 40))); (have Hf2 := hide ((Hf2.out.here hb).alloc (.cells #[.int .i64 o5, .int .i64 n5] 40))); (have Hn1 := hide (Rd.alloc hr (.cells #[.int .i64 o5, .int .i64 n5] 40))); have Hk := hide (Bk.new w24 40 #[.int .i64 o5, .int .i64 n5]); have Hb := hide ((Hb.out.trans (hb.mono Hb.out.size)).alloc (Hb.out.trans (hb.mono Hb.out.size)).size (.cells #[.int .i64 o5, .int .i64 n5] 40)); clear hr hb)
          | (go_at_call 17; refine (impl_NeedsOf _ _ _ _ _ Hn1.out).mono ?_; rintro e w25 ⟨rfl, hb⟩; (have Hf1 := hide (Hf1.out.here hb)); (have Hf2 := hide (Hf2.out.here hb)); (have Hn1 := hide (Hn1.out.here hb)); have Hk := hide (Hk.out.below hb); have k0 := Hk.out.cell 0; have k1 := Hk.out.cell 1; have kl := Hk.out.lt; have Hb := hide (Hb.out.trans (hb.mono Hb.out.size)); clear hb)
          | (go_at_call 18; refine (spec_NeedsOf _ _ _ _ _ Hn1.out).mono ?_; rintro e w26 ⟨rfl, hb⟩; (have Hf1 := hide (Hf1.out.here hb)); (have Hf2 := hide (Hf2.out.here hb)); have Hb := hide (Hb.out.trans (hb.mono Hb.out.size)); clear hb))
        go_wp2_with (first
          | (go_at_call 19; refine (impl_GoodExpr _ _ _ _ [1, 0, 2] _ Hf1.out Hf2.out).mono ?_; rintro e w27 ⟨rfl, hb⟩; (have Hf1 := hide (Hf1.out.here hb)); (have Hf2 := hide (Hf2.out.here hb)); have Hb := hide (Hb.out.trans (hb.mono Hb.out.size)); clear hb)
          | (go_at_call 20; refine (spec_GoodExpr _ _ _ _ [1, 0, 2] _ Hf1.out Hf2.out).mono ?_; rintro e w28 ⟨rfl, hb⟩; have Hb := hide (Hb.out.trans (hb.mono Hb.out.size)); clear hb))
        go_ret
        exact ⟨rfl, Hb.out⟩
    -- END
  · obtain ⟨e1, e2⟩ := hback hx
    rw [e1, e2] at hrd
    simp only [hx] at hi4 hs4
    have I4 := Lib.hid hi4; have S4 := Lib.hid hs4; have R4 := Lib.hid hrd
    have hszI : (S.size : Int) ≤ 200 := by omega
    clear hi4 hs4 hrd hback hx e1 e2
    go_upto_region 12 with (first
      | (go_at_call 6; refine (I4.out _ Hr.out Hb.out).mono ?_; rintro e w2 ⟨rfl, hb⟩; have Hr := hide (Hr.out.here hb); have Hb := hide (Hb.out.trans (hb.mono Hb.out.size)); clear hb)
      | (go_at_call 7; refine (S4.out _ Hr.out).mono ?_; rintro e w3 ⟨rfl, hb⟩; have Hr := hide (Hr.out.here hb); have Hb := hide (Hb.out.trans (hb.mono Hb.out.size)); clear hb)
      | (go_at_call 8; refine (R4.out _ (by omega) Hb.out).mono ?_; rintro e w4 ⟨x, rfl, ho, hb⟩; have Hx := hide (Rd.of_own ho); have Hr := hide (Hr.out.here hb); have Hb := hide (Hb.out.trans (hb.mono Hb.out.size)); clear ho hb)
      | (go_at_call 9; refine (laws_sameToks _ _ l _ Hx.out Hr.out (by omega)).mono ?_; rintro e w5 ⟨rfl, hb⟩; have Hb := hide (Hb.out.trans (hb.mono Hb.out.size)); clear hb))
    -- REST
    go_upto_region 13 with (go_at_call 10; refine (D2.out _ Hb.out).mono ?_; rintro e w6 ⟨tx, rfl, htx, hb⟩; have Hb := hide (Hb.out.trans (hb.mono Hb.out.size)); clear hb)
    have hir := fun W hW => IR.out tx W htx hW
    have hsr := fun W => SR.out tx W htx
    have hxb := @rx_back tx
    have hxl := rdL_len tx.data.toList
    generalize rdL tx.data.toList = X at *
    cases h1 : rdB tx.data.toList
    · simp only [h1] at hir hsr
      have IR5 := Lib.hid hir; have SR5 := Lib.hid hsr
      clear hir hsr hxb h1
      go_upto_region 21 with (first
        | (go_at_call 8; refine (IR5.out _ Hb.out).mono ?_; rintro e w7 ⟨x1, rfl, ho, hb⟩; have Hx1 := hide (Rd.of_own ho); have Hb := hide (Hb.out.trans (hb.mono Hb.out.size)); clear ho hb)
        | (go_at_call 11; refine (SR5.out _).mono ?_; rintro e w8 ⟨x2, rfl, ho, hb⟩; have Hx2 := hide (Rd.of_own ho); have Hx1 := hide (Hx1.out.here hb); have Hb := hide (Hb.out.trans (hb.mono Hb.out.size)); clear ho hb)
        | (go_at_call 9; refine (laws_sameToks _ _ X _ Hx1.out Hx2.out (by omega)).mono ?_; rintro e w9 ⟨rfl, hb⟩; have Hx1 := hide (Hx1.out.here hb); have Hb := hide (Hb.out.trans (hb.mono Hb.out.size)); clear hb))
      go_upto_region 22 with (go_at_call 12; refine (D3.out _ Hb.out).mono ?_; rintro e w20 ⟨v3, l3, u3, rfl, hr, hl3, hu, hb⟩; have Hd1 := hide hr; have Hu1 := hide hu; have Hb := hide (Hb.out.trans (hb.mono Hb.out.size)); clear hr hu hb)
      obtain ⟨Ad, cd, rfl, _, _, _⟩ := id Hd1.out
      have hhi := fun W h1 h2 => impl_HighOf (.slice Ad l3.length cd) l3 u3 [1, 0, 2] W h1 h2
      have hhs := fun W h1 h2 => spec_HighOf (.slice Ad l3.length cd) l3 u3 [1, 0, 2] W h1 h2
      have hlaw := @highR_law l3 [1, 0, 2]
      generalize highR l3 [1, 0, 2] = H at *
      cases hh : highB l3 [1, 0, 2]
      · simp only [hh] at hhi hhs
        have HI := Lib.hid hhi; have HS := Lib.hid hhs
        clear hhi hhs hlaw hh
        go_upto_region 28 with (first
          | (go_at_call 13; refine (HI.out _ Hd1.out Hu1.out).mono ?_; rintro e w21 ⟨rfl, hb⟩; (try have Hd1 := hide (Hd1.out.here hb)); (try have Hu1 := hide (Hu1.out.here hb)); (try have Hf1 := hide (Hf1.out.here hb)); (try have Hf2 := hide (Hf2.out.here hb)); (try have Hn1 := hide (Hn1.out.here hb)); have Hb := hide (Hb.out.trans (hb.mono Hb.out.size)); clear hb)
          | (go_at_call 14; refine (HS.out _ Hd1.out Hu1.out).mono ?_; rintro e w22 ⟨rfl, hb⟩; (try have Hd1 := hide (Hd1.out.here hb)); (try have Hu1 := hide (Hu1.out.here hb)); (try have Hf1 := hide (Hf1.out.here hb)); (try have Hf2 := hide (Hf2.out.here hb)); (try have Hn1 := hide (Hn1.out.here hb)); have Hb := hide (Hb.out.trans (hb.mono Hb.out.size)); clear hb)
          | (go_at_call 15; refine (D4.out _ Hb.out).mono ?_; rintro e w23 ⟨v4, l4, n4, u4, rfl, hr, hl4, hn4, hu, hb⟩; (have Hf1 := hide hr); (have Hf2 := hide hu); have Hb := hide (Hb.out.trans (hb.mono Hb.out.size)); clear hr hu hb)
          | (go_at_call 16; refine (D5.out _ Hb.out).mono ?_; rintro e w24 ⟨o5, n5, u5a, l5, rfl, hr, hb⟩; (have Hf1 := hide ((Hf1.out.here hb).alloc (.cells #[.int .i64 o5, .int .i64 n5] 40))); (have Hf2 := hide ((Hf2.out.here hb).alloc (.cells #[.int .i64 o5, .int .i64 n5] 40))); (have Hn1 := hide (Rd.alloc hr (.cells #[.int .i64 o5, .int .i64 n5] 40))); have Hk := hide (Bk.new w24 40 #[.int .i64 o5, .int .i64 n5]); have Hb := hide ((Hb.out.trans (hb.mono Hb.out.size)).alloc (Hb.out.trans (hb.mono Hb.out.size)).size (.cells #[.int .i64 o5, .int .i64 n5] 40)); clear hr hb)
          | (go_at_call 17; refine (impl_NeedsOf _ _ _ _ _ Hn1.out).mono ?_; rintro e w25 ⟨rfl, hb⟩; (have Hf1 := hide (Hf1.out.here hb)); (have Hf2 := hide (Hf2.out.here hb)); (have Hn1 := hide (Hn1.out.here hb)); have Hk := hide (Hk.out.below hb); have k0 := Hk.out.cell 0; have k1 := Hk.out.cell 1; have kl := Hk.out.lt; have Hb := hide (Hb.out.trans (hb.mono Hb.out.size)); clear hb)
          | (go_at_call 18; refine (spec_NeedsOf _ _ _ _ _ Hn1.out).mono ?_; rintro e w26 ⟨rfl, hb⟩; (have Hf1 := hide (Hf1.out.here hb)); (have Hf2 := hide (Hf2.out.here hb)); have Hb := hide (Hb.out.trans (hb.mono Hb.out.size)); clear hb))
        go_wp2_with (first
          | (go_at_call 19; refine (impl_GoodExpr _ _ _ _ [1, 0, 2] _ Hf1.out Hf2.out).mono ?_; rintro e w27 ⟨rfl, hb⟩; (have Hf1 := hide (Hf1.out.here hb)); (have Hf2 := hide (Hf2.out.here hb)); have Hb := hide (Hb.out.trans (hb.mono Hb.out.size)); clear hb)
          | (go_at_call 20; refine (spec_GoodExpr _ _ _ _ [1, 0, 2] _ Hf1.out Hf2.out).mono ?_; rintro e w28 ⟨rfl, hb⟩; have Hb := hide (Hb.out.trans (hb.mono Hb.out.size)); clear hb))
        go_ret
        exact ⟨rfl, Hb.out⟩
      · simp only [hh] at hhi hhs
        obtain ⟨hl1, hl2⟩ := hlaw hh
        have HI := Lib.hid hhi; have HS := Lib.hid hhs
        clear hhi hhs hlaw hh
        go_upto_region 28 with (first
          | (go_at_call 13; refine (HI.out _ Hd1.out Hu1.out).mono ?_; rintro e w21 ⟨rfl, hb⟩; (try have Hd1 := hide (Hd1.out.here hb)); (try have Hu1 := hide (Hu1.out.here hb)); (try have Hf1 := hide (Hf1.out.here hb)); (try have Hf2 := hide (Hf2.out.here hb)); (try have Hn1 := hide (Hn1.out.here hb)); have Hb := hide (Hb.out.trans (hb.mono Hb.out.size)); clear hb)
          | (go_at_call 14; refine (HS.out _ Hd1.out Hu1.out).mono ?_; rintro e w22 ⟨rfl, hb⟩; (try have Hd1 := hide (Hd1.out.here hb)); (try have Hu1 := hide (Hu1.out.here hb)); (try have Hf1 := hide (Hf1.out.here hb)); (try have Hf2 := hide (Hf2.out.here hb)); (try have Hn1 := hide (Hn1.out.here hb)); have Hb := hide (Hb.out.trans (hb.mono Hb.out.size)); clear hb)
          | (go_at_call 15; refine (D4.out _ Hb.out).mono ?_; rintro e w23 ⟨v4, l4, n4, u4, rfl, hr, hl4, hn4, hu, hb⟩; (have Hf1 := hide hr); (have Hf2 := hide hu); have Hb := hide (Hb.out.trans (hb.mono Hb.out.size)); clear hr hu hb)
          | (go_at_call 16; refine (D5.out _ Hb.out).mono ?_; rintro e w24 ⟨o5, n5, u5a, l5, rfl, hr, hb⟩; (have Hf1 := hide ((Hf1.out.here hb).alloc (.cells #[.int .i64 o5, .int .i64 n5] 40))); (have Hf2 := hide ((Hf2.out.here hb).alloc (.cells #[.int .i64 o5, .int .i64 n5] 40))); (have Hn1 := hide (Rd.alloc hr (.cells #[.int .i64 o5, .int .i64 n5] 40))); have Hk := hide (Bk.new w24 40 #[.int .i64 o5, .int .i64 n5]); have Hb := hide ((Hb.out.trans (hb.mono Hb.out.size)).alloc (Hb.out.trans (hb.mono Hb.out.size)).size (.cells #[.int .i64 o5, .int .i64 n5] 40)); clear hr hb)
          | (go_at_call 17; refine (impl_NeedsOf _ _ _ _ _ Hn1.out).mono ?_; rintro e w25 ⟨rfl, hb⟩; (have Hf1 := hide (Hf1.out.here hb)); (have Hf2 := hide (Hf2.out.here hb)); (have Hn1 := hide (Hn1.out.here hb)); have Hk := hide (Hk.out.below hb); have k0 := Hk.out.cell 0; have k1 := Hk.out.cell 1; have kl := Hk.out.lt; have Hb := hide (Hb.out.trans (hb.mono Hb.out.size)); clear hb)
          | (go_at_call 18; refine (spec_NeedsOf _ _ _ _ _ Hn1.out).mono ?_; rintro e w26 ⟨rfl, hb⟩; (have Hf1 := hide (Hf1.out.here hb)); (have Hf2 := hide (Hf2.out.here hb)); have Hb := hide (Hb.out.trans (hb.mono Hb.out.size)); clear hb))
        go_wp2_with (first
          | (go_at_call 19; refine (impl_GoodExpr _ _ _ _ [1, 0, 2] _ Hf1.out Hf2.out).mono ?_; rintro e w27 ⟨rfl, hb⟩; (have Hf1 := hide (Hf1.out.here hb)); (have Hf2 := hide (Hf2.out.here hb)); have Hb := hide (Hb.out.trans (hb.mono Hb.out.size)); clear hb)
          | (go_at_call 20; refine (spec_GoodExpr _ _ _ _ [1, 0, 2] _ Hf1.out Hf2.out).mono ?_; rintro e w28 ⟨rfl, hb⟩; have Hb := hide (Hb.out.trans (hb.mono Hb.out.size)); clear hb))
        go_ret
        exact ⟨rfl, Hb.out⟩
    · simp only [h1] at hir hsr
      obtain ⟨g1, g2⟩ := hxb h1
      have hi5 := fun v W h1 hW => IX.out v X W h1 (by omega) hW
      rw [g1, g2] at hi5
      have I5 := Lib.hid hi5
      have IR5 := Lib.hid hir; have SR5 := Lib.hid hsr
      clear hir hsr hxb h1 g1 g2 hi5
      go_upto_region 21 with (first
        | (go_at_call 8; refine (IR5.out _ Hb.out).mono ?_; rintro e w7 ⟨x1, rfl, ho, hb⟩; have Hx1 := hide (Rd.of_own ho); have Hb := hide (Hb.out.trans (hb.mono Hb.out.size)); clear ho hb)
        | (go_at_call 11; refine (SR5.out _).mono ?_; rintro e w8 ⟨x2, rfl, ho, hb⟩; have Hx2 := hide (Rd.of_own ho); have Hx1 := hide (Hx1.out.here hb); have Hb := hide (Hb.out.trans (hb.mono Hb.out.size)); clear ho hb)
        | (go_at_call 9; refine (laws_sameToks _ _ X _ Hx1.out Hx2.out (by omega)).mono ?_; rintro e w9 ⟨rfl, hb⟩; have Hx1 := hide (Hx1.out.here hb); have Hb := hide (Hb.out.trans (hb.mono Hb.out.size)); clear hb)
        | (go_at_call 6; refine (I5.out _ _ Hx1.out Hb.out).mono ?_; rintro e w10 ⟨rfl, hb⟩; have Hb := hide (Hb.out.trans (hb.mono Hb.out.size)); clear hb))
      go_upto_region 22 with (go_at_call 12; refine (D3.out _ Hb.out).mono ?_; rintro e w20 ⟨v3, l3, u3, rfl, hr, hl3, hu, hb⟩; have Hd1 := hide hr; have Hu1 := hide hu; have Hb := hide (Hb.out.trans (hb.mono Hb.out.size)); clear hr hu hb)
      obtain ⟨Ad, cd, rfl, _, _, _⟩ := id Hd1.out
      have hhi := fun W h1 h2 => impl_HighOf (.slice Ad l3.length cd) l3 u3 [1, 0, 2] W h1 h2
      have hhs := fun W h1 h2 => spec_HighOf (.slice Ad l3.length cd) l3 u3 [1, 0, 2] W h1 h2
      have hlaw := @highR_law l3 [1, 0, 2]
      generalize highR l3 [1, 0, 2] = H at *
      cases hh : highB l3 [1, 0, 2]
      · simp only [hh] at hhi hhs
        have HI := Lib.hid hhi; have HS := Lib.hid hhs
        clear hhi hhs hlaw hh
        go_upto_region 28 with (first
          | (go_at_call 13; refine (HI.out _ Hd1.out Hu1.out).mono ?_; rintro e w21 ⟨rfl, hb⟩; (try have Hd1 := hide (Hd1.out.here hb)); (try have Hu1 := hide (Hu1.out.here hb)); (try have Hf1 := hide (Hf1.out.here hb)); (try have Hf2 := hide (Hf2.out.here hb)); (try have Hn1 := hide (Hn1.out.here hb)); have Hb := hide (Hb.out.trans (hb.mono Hb.out.size)); clear hb)
          | (go_at_call 14; refine (HS.out _ Hd1.out Hu1.out).mono ?_; rintro e w22 ⟨rfl, hb⟩; (try have Hd1 := hide (Hd1.out.here hb)); (try have Hu1 := hide (Hu1.out.here hb)); (try have Hf1 := hide (Hf1.out.here hb)); (try have Hf2 := hide (Hf2.out.here hb)); (try have Hn1 := hide (Hn1.out.here hb)); have Hb := hide (Hb.out.trans (hb.mono Hb.out.size)); clear hb)
          | (go_at_call 15; refine (D4.out _ Hb.out).mono ?_; rintro e w23 ⟨v4, l4, n4, u4, rfl, hr, hl4, hn4, hu, hb⟩; (have Hf1 := hide hr); (have Hf2 := hide hu); have Hb := hide (Hb.out.trans (hb.mono Hb.out.size)); clear hr hu hb)
          | (go_at_call 16; refine (D5.out _ Hb.out).mono ?_; rintro e w24 ⟨o5, n5, u5a, l5, rfl, hr, hb⟩; (have Hf1 := hide ((Hf1.out.here hb).alloc (.cells #[.int .i64 o5, .int .i64 n5] 40))); (have Hf2 := hide ((Hf2.out.here hb).alloc (.cells #[.int .i64 o5, .int .i64 n5] 40))); (have Hn1 := hide (Rd.alloc hr (.cells #[.int .i64 o5, .int .i64 n5] 40))); have Hk := hide (Bk.new w24 40 #[.int .i64 o5, .int .i64 n5]); have Hb := hide ((Hb.out.trans (hb.mono Hb.out.size)).alloc (Hb.out.trans (hb.mono Hb.out.size)).size (.cells #[.int .i64 o5, .int .i64 n5] 40)); clear hr hb)
          | (go_at_call 17; refine (impl_NeedsOf _ _ _ _ _ Hn1.out).mono ?_; rintro e w25 ⟨rfl, hb⟩; (have Hf1 := hide (Hf1.out.here hb)); (have Hf2 := hide (Hf2.out.here hb)); (have Hn1 := hide (Hn1.out.here hb)); have Hk := hide (Hk.out.below hb); have k0 := Hk.out.cell 0; have k1 := Hk.out.cell 1; have kl := Hk.out.lt; have Hb := hide (Hb.out.trans (hb.mono Hb.out.size)); clear hb)
          | (go_at_call 18; refine (spec_NeedsOf _ _ _ _ _ Hn1.out).mono ?_; rintro e w26 ⟨rfl, hb⟩; (have Hf1 := hide (Hf1.out.here hb)); (have Hf2 := hide (Hf2.out.here hb)); have Hb := hide (Hb.out.trans (hb.mono Hb.out.size)); clear hb))
        go_wp2_with (first
          | (go_at_call 19; refine (impl_GoodExpr _ _ _ _ [1, 0, 2] _ Hf1.out Hf2.out).mono ?_; rintro e w27 ⟨rfl, hb⟩; (have Hf1 := hide (Hf1.out.here hb)); (have Hf2 := hide (Hf2.out.here hb)); have Hb := hide (Hb.out.trans (hb.mono Hb.out.size)); clear hb)
          | (go_at_call 20; refine (spec_GoodExpr _ _ _ _ [1, 0, 2] _ Hf1.out Hf2.out).mono ?_; rintro e w28 ⟨rfl, hb⟩; have Hb := hide (Hb.out.trans (hb.mono Hb.out.size)); clear hb))
        go_ret
        exact ⟨rfl, Hb.out⟩
      · simp only [hh] at hhi hhs
        obtain ⟨hl1, hl2⟩ := hlaw hh
        have HI := Lib.hid hhi; have HS := Lib.hid hhs
        clear hhi hhs hlaw hh
        go_upto_region 28 with (first
          | (go_at_call 13; refine (HI.out _ Hd1.out Hu1.out).mono ?_; rintro e w21 ⟨rfl, hb⟩; (try have Hd1 := hide (Hd1.out.here hb)); (try have Hu1 := hide (Hu1.out.here hb)); (try have Hf1 := hide (Hf1.out.here hb)); (try have Hf2 := hide (Hf2.out.here hb)); (try have Hn1 := hide (Hn1.out.here hb)); have Hb := hide (Hb.out.trans (hb.mono Hb.out.size)); clear hb)
          | (go_at_call 14; refine (HS.out _ Hd1.out Hu1.out).mono ?_; rintro e w22 ⟨rfl, hb⟩; (try have Hd1 := hide (Hd1.out.here hb)); (try have Hu1 := hide (Hu1.out.here hb)); (try have Hf1 := hide (Hf1.out.here hb)); (try have Hf2 := hide (Hf2.out.here hb)); (try have Hn1 := hide (Hn1.out.here hb)); have Hb := hide (Hb.out.trans (hb.mono Hb.out.size)); clear hb)
          | (go_at_call 15; refine (D4.out _ Hb.out).mono ?_; rintro e w23 ⟨v4, l4, n4, u4, rfl, hr, hl4, hn4, hu, hb⟩; (have Hf1 := hide hr); (have Hf2 := hide hu); have Hb := hide (Hb.out.trans (hb.mono Hb.out.size)); clear hr hu hb)
          | (go_at_call 16; refine (D5.out _ Hb.out).mono ?_; rintro e w24 ⟨o5, n5, u5a, l5, rfl, hr, hb⟩; (have Hf1 := hide ((Hf1.out.here hb).alloc (.cells #[.int .i64 o5, .int .i64 n5] 40))); (have Hf2 := hide ((Hf2.out.here hb).alloc (.cells #[.int .i64 o5, .int .i64 n5] 40))); (have Hn1 := hide (Rd.alloc hr (.cells #[.int .i64 o5, .int .i64 n5] 40))); have Hk := hide (Bk.new w24 40 #[.int .i64 o5, .int .i64 n5]); have Hb := hide ((Hb.out.trans (hb.mono Hb.out.size)).alloc (Hb.out.trans (hb.mono Hb.out.size)).size (.cells #[.int .i64 o5, .int .i64 n5] 40)); clear hr hb)
          | (go_at_call 17; refine (impl_NeedsOf _ _ _ _ _ Hn1.out).mono ?_; rintro e w25 ⟨rfl, hb⟩; (have Hf1 := hide (Hf1.out.here hb)); (have Hf2 := hide (Hf2.out.here hb)); (have Hn1 := hide (Hn1.out.here hb)); have Hk := hide (Hk.out.below hb); have k0 := Hk.out.cell 0; have k1 := Hk.out.cell 1; have kl := Hk.out.lt; have Hb := hide (Hb.out.trans (hb.mono Hb.out.size)); clear hb)
          | (go_at_call 18; refine (spec_NeedsOf _ _ _ _ _ Hn1.out).mono ?_; rintro e w26 ⟨rfl, hb⟩; (have Hf1 := hide (Hf1.out.here hb)); (have Hf2 := hide (Hf2.out.here hb)); have Hb := hide (Hb.out.trans (hb.mono Hb.out.size)); clear hb))
        go_wp2_with (first
          | (go_at_call 19; refine (impl_GoodExpr _ _ _ _ [1, 0, 2] _ Hf1.out Hf2.out).mono ?_; rintro e w27 ⟨rfl, hb⟩; (have Hf1 := hide (Hf1.out.here hb)); (have Hf2 := hide (Hf2.out.here hb)); have Hb := hide (Hb.out.trans (hb.mono Hb.out.size)); clear hb)
          | (go_at_call 20; refine (spec_GoodExpr _ _ _ _ [1, 0, 2] _ Hf1.out Hf2.out).mono ?_; rintro e w28 ⟨rfl, hb⟩; have Hb := hide (Hb.out.trans (hb.mono Hb.out.size)); clear hb))
        go_ret
        exact ⟨rfl, Hb.out⟩
    -- END
end Go.Proofs.YtheddnjhkcpmnaaGreatDoor
