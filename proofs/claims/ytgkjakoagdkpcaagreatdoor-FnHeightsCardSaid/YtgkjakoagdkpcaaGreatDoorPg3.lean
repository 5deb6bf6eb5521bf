
/- l3Sites, l3Order: what the Go text returns. No condition. -/
import Derived.Test.YtgkjakoagdkpcaaGreatDoorPg1
import Derived.Deep.RegionHeldLaw
set_option linter.unusedSimpArgs false
set_option linter.unusedVariables false
set_option maxRecDepth 100000
namespace Go.Proofs.YtgkjakoagdkpcaaGreatDoor
open Go.RowKit

/-- 'append(s, x...)' of two of the call's own, as one step of a region that draws its order -/
theorem step_catOwn {P : Program} {ops : Array Oper} {o : Oper} {a : Act} {w : World} {K : Act → World → Prop} {Q : Exit → Act → World → Prop} {E : Prop}
    (hg : o.guard = none) (d : Nat) (hd : o.dst = some d) (s x : Operand) (t : TypeId) (hop : o.op = Op.call { callee := Callee.builtin Builtin.append, args := #[s, x], argTypes := #[t, t] }) {e : TypeId} {z : Value} {size bytes : Nat} (hT : SliceOk P t e z size bytes)
    {base base2 : Nat} {v u : Value} {n m : Nat} {xs news : List Value} (hs : a.eval s = v) (hown : w.ownsRow base e size v n xs) (hx : a.eval x = u) (hu : w.ownsRow base2 e size u m news)
    (h1 : ∀ u ∈ news, u.oneCell' = true) (h63 : n + m ≤ maxLen) (hbytes : (n + m) * bytes ≤ 140737488355328) (hbase : base ≤ w.heap.size)
    (hK : ∀ v' w', w'.ownsRow base e size v' (n + m) (xs ++ news) → Gro w w' v v' → K (a.put (some d) v') w') :
    if Region.wanted o (yielded ops a.tmps) = true then Oper.wp P o a w K Q else E := by
  have hw : Region.wanted o (yielded ops a.tmps) = true := by simp [Region.wanted, hg]
  rw [if_pos hw]
  rw [← hd] at hK
  obtain ⟨ht, i, hi, hz, hsz, hby, hzs, hs0⟩ := hT
  rcases id hu.2 with ⟨rfl, rfl⟩ | ⟨g, cap, cur, rfl, hgg, hh, hn, hc, hcs, htk⟩
  · have hnews : news = [] := List.eq_nil_of_length_eq_zero (by rw [hu.1]; simp)
    subst hnews
    have hrun := run_append_owned_none (P := P) (w := w) base t o.type e i size ht hi v n xs hown
    unfold Oper.wp
    simp [execOp, hop, resolve, invoke, builtin, hs, hx, hrun, Result.andThen]
    exact hK v w (by simpa using hown) (Gro.refl _ _)
  · obtain ⟨v', w', hr, k1, k2, _, k4⟩ := run_append_own_at (P := P) w base t o.type e i z size bytes ht hi hz hsz hby hzs hs0 v n xs hown ⟨g, 0, none⟩ m cap news hu.1 (hu.cells rfl) h1 h63 hbytes hbase
    unfold Oper.wp
    simp [execOp, hop, resolve, invoke, builtin, hs, hx, hr, Result.andThen]
    refine hK v' w' k1 ⟨k2, ?_⟩
    rcases k4 with e | e
    · exact .inl e
    · exact .inr ⟨_, e, Nat.le_refl _⟩

set_option maxHeartbeats 1600000 in
theorem spec_l3Sites (cs : List Value) (m : FuncM) (w : World) (hr : RFunc w 0 w.heap.size cs m) (hl : m.qStmts.length ≤ 16) :
    Calls Tryz.prog 118 #[.agg cs.toArray] w fun e w' => ∃ v, e = .returned v ∧ w'.ownsRow w.heap.size 3 1 v (sitesF 0 m.qStmts).length (icells .i64 (sitesF 0 m.qStmts)) ∧ Below w.heap.size w w' := by
  obtain ⟨v2, v3, rfl, h2, h3⟩ := hr
  obtain ⟨m0, m1, m2, l⟩ := m
  dsimp only at *
  obtain ⟨A, c, rfl⟩ := h3.form
  obtain ⟨A2, c2, rfl⟩ := h2.form
  have hb := (Below.refl w.heap.size w).alloc (Nat.le_refl _) (.cells #[.int .i64 m0, .int .i64 m1, .slice A2 m2.length c2, .slice A l.length c] 135)
  have H3 := hide h3; have Hb0 := hide hb; clear h2 h3 hb
  go_enter Tryz.func118, Tryz.ntmps118
  go_wp2
  go_loopw [3, 9] (fun sv i wr => ∃ (k : Nat) (acc : List Int), k ≤ l.length ∧ i = .int .i64 k ∧ acc.length ≤ k ∧ acc ++ sitesF k (l.drop k) = sitesF 0 l ∧ wr.ownsRow w.heap.size 3 1 sv acc.length (icells .i64 acc) ∧ Below w.heap.size w wr) (fun _ i _ => l.length - (intOf i).toNat)
  case atStart => exact ⟨0, [], by omega, rfl, by simp, rfl, World.ownsRow_nil _ _ _ _, Hb0.out⟩
  case round =>
    obtain ⟨k, acc, hk, rfl, hal, hacc, hown, hb⟩ := hrel
    by_cases hlt : k < l.length
    · obtain ⟨b, o, A5, c5, A6, c6, A7, c7, rfl, hbB, e0, e1, e2, e3, e4, x2, x3, x4⟩ := RStmt_lit (H3.out.here RStmt_stable hb) hlt
      have hy := fun h => (congrArg (acc ++ ·) (sitesF_yes hlt h)).symm.trans hacc
      have hn := fun h => (congrArg (acc ++ ·) (sitesF_no hlt h)).symm.trans hacc
      generalize l[k] = s at *
      have Hown := hide hown; have Hb := hide hb; have hbs := hb.size; clear x2 x3 x4 hacc hown hb
      by_cases h3 : s.qKind = 3
      · have Hy := hide (hy h3); clear hy hn
        rw [h3] at e0
        have Hal := hide (Hown.out.alloc (.cells #[.int .i64 3, .int .i64 s.qN, .slice A5 s.qEx.length c5, .slice A6 s.qThen.length c6, .slice A7 s.qElse.length c7] 140))
        have Hab := hide (Hb.out.alloc hbs (.cells #[.int .i64 3, .int .i64 s.qN, .slice A5 s.qEx.length c5, .slice A6 s.qThen.length c6, .slice A7 s.qElse.length c7] 140))
        clear h3
        go_wp2_with (at_builtin; refine wpList_push' rfl _ _ _ rfl okI64 rfl Hal.out _ rfl (by rw [World.size_alloc]) rfl (by simp [Value.oneCell']) (by unfold maxLen; omega) (by omega) Hab.out.size ?_; intro v1 w1 hown1 hg1)
        go_roundw
        case rel => exact ⟨k + 1, acc ++ [(k : Int)], by omega, by go_num, by simp; omega, by rw [← Hy.out]; simp, by rw [List.length_append, icells_append]; exact hown1, belowPush Hab.out Hal.out Hab.out.size hg1⟩
        case measure => simp [intOf]; omega
      · have Hn := hide (hn h3); clear hy hn
        have b3 : (s.qKind == 3) = false := by rw [beq_eq_false_iff_ne]; exact h3
        clear h3
        go_wp2
        go_roundw
        case rel => exact ⟨k + 1, acc, by omega, by go_num, by omega, Hn.out, own_keep Hown.out ((Below.refl _ _).alloc (Nat.le_refl _) _), Hb.out.alloc hbs _⟩
        case measure => simp [intOf]; omega
    · obtain rfl : k = l.length := by omega
      rw [List.drop_length] at hacc
      have e : acc = sitesF 0 l := by rw [← hacc]; simp [sitesF]
      subst e
      have Hown := hide hown; have Hb := hide hb; clear hown hb hacc
      go_wp2
      go_ret
      exact ⟨_, rfl, Hown.out, Hb.out⟩


set_option maxHeartbeats 3200000 in
theorem spec_l3Order (m0 m1 : Int) (m2 : List Int) (l : List StmtM) (hlat : latB l.length 0 l = true) (hl16 : l.length ≤ 16) : ∀ (d : Nat) (b : List Int) (bv : Value) (w : World) (cs : List Value), RFunc w 0 w.heap.size cs ⟨m0, m1, m2, l⟩ → Rd w w.heap.size bv b.length (icells .i64 b) →
    (∀ x ∈ b, 0 ≤ x ∧ x < l.length ∧ l.length ≤ x + d) → (ordN (kidsOf l) d (natL b)).length ≤ 2000000 →
    Calls Tryz.prog 128 #[.agg cs.toArray, bv] w fun e w' => ∃ v', e = .returned v' ∧ w'.ownsRow w.heap.size 3 1 v' (intL (ordN (kidsOf l) d (natL b))).length (icells .i64 (intL (ordN (kidsOf l) d (natL b)))) ∧ Below w.heap.size w w' := by
  intro d
  induction d with
  | zero =>
    intro b bv w cs hr hrd hb hlen
    have hbn : b = [] := by
      cases b with
      | nil => rfl
      | cons a b => have := hb a (by simp); omega
    subst hbn
    obtain ⟨v2, v3, rfl, h2, h3⟩ := hr
    obtain ⟨A, c, rfl, _, _, _⟩ := hrd
    dsimp only at *
    have hb2 := (Below.refl w.heap.size w).alloc (Nat.le_refl _) (.cells #[.int .i64 m0, .int .i64 m1, v2, v3] 135)
    rw [show intL (ordN (kidsOf l) 0 (natL [])) = [] by simp [ordN, intL]]
    have Hb2 := hide hb2; clear hb2 h2 h3 hlat hlen hb
    go_enter Tryz.func128, Tryz.ntmps128
    go_wp2
    go_rounds 1
    go_ret
    exact ⟨_, rfl, World.ownsRow_nil _ _ _ _, Hb2.out⟩
  | succ d ih =>
    intro b bv w cs hr hrd hb hlen
    have hr0 := hr
    obtain ⟨v2, v3, rfl, h2, h3⟩ := hr
    obtain ⟨A, c, rfl, hn1, hn2, hcell⟩ := id hrd
    obtain ⟨A3, c3, rfl⟩ := h3.form
    obtain ⟨A2, c2, rfl⟩ := h2.form
    dsimp only at *
    have hbl := hrd.long
    have hb2 := (Below.refl w.heap.size w).alloc (Nat.le_refl _) (.cells #[.int .i64 m0, .int .i64 m1, .slice A2 m2.length c2, .slice A3 l.length c3] 135)
    have hk2 := Bk.new w 135 #[.int .i64 m0, .int .i64 m1, .slice A2 m2.length c2, .slice A3 l.length c3]
    have Hr := hide hr0; have Hrd := hide hrd; have Hb2 := hide hb2; have Hk := hide hk2; have H3 := hide h3; have Hb := hide hb; have Hlat := hide hlat
    clear hr0 hrd hb2 hk2 h2 h3 hb hcell hlat
    obtain ⟨tot, htot⟩ : ∃ t, t = intL (ordN (kidsOf l) (d + 1) (natL b)) := ⟨_, rfl⟩
    have htl : tot.length ≤ 2000000 := by rw [htot, intL_length]; exact hlen
    rw [← htot]
    have Htot := hide htot; clear htot hlen
    go_enter Tryz.func128, Tryz.ntmps128
    go_wp2
    go_loopw [5, 10] (fun sv i wr => ∃ (k : Nat) (a : List Int), k ≤ b.length ∧ i = .int .i64 k ∧ a ++ intL (ordN (kidsOf l) (d + 1) (natL (b.drop k))) = tot ∧ wr.ownsRow (w.heap.size + 1) 3 1 sv a.length (icells .i64 a) ∧ Below w.heap.size w wr ∧ Bk wr w.heap.size 135 #[.int .i64 m0, .int .i64 m1, .slice A2 m2.length c2, .slice A3 l.length c3]) (fun _ i _ => b.length - (intOf i).toNat)
    case atStart => exact ⟨0, [], by omega, rfl, Htot.out.symm, World.ownsRow_nil _ _ _ _, Hb2.out, Hk.out⟩
    case round =>
      obtain ⟨k, a, hk, rfl, hacc, hown, hbB, hbk⟩ := hrel
      by_cases hlt : k < b.length
      · have hsz := hbk.lt
        obtain ⟨q1, o1, e1, hq1, s0⟩ := Hrd.out.at_ (j := k) (by rw [icells_length]; exact hlt)
        cases e1
        rw [icells_get _ _ hlt] at s0
        have hs0 := (hbB.cell (p := ⟨q1, o1 + k, none⟩) hq1).trans s0
        have hbk0 := Hb.out b[k] (List.getElem_mem hlt)
        rw [ord_drop hlt] at hacc
        generalize b[k] = x at *
        obtain ⟨y, rfl⟩ := Int.eq_ofNat_of_zero_le hbk0.1
        have hy : y < l.length := by have := hbk0.2.1; omega
        have hy0 : (0 : Int) ≤ (y : Int) := by omega
        have hyI : (y : Int) < (l.length : Int) := by omega
        have hyd : l.length ≤ y + (d + 1) := by have := hbk0.2.2; omega
        rw [Int.toNat_natCast] at hacc
        have hkid := kid_of hy
        rw [hkid] at hacc
        obtain ⟨hl1, hl2⟩ := (latB_all l 0).1 Hlat.out y hy
        rw [inAll_iff] at hl1 hl2
        have hT : ∀ x ∈ l[y].qThen, 0 ≤ x ∧ x < l.length ∧ l.length ≤ x + (d : Nat) := fun x hx => by have := hl1 x hx; omega
        have hE : ∀ x ∈ l[y].qElse, 0 ≤ x ∧ x < l.length ∧ l.length ≤ x + (d : Nat) := fun x hx => by have := hl2 x hx; omega
        obtain ⟨b5, o5, A5, c5, A6, c6, A7, c7, e5, hb5, x0, x1, x2, x3, x4, r2, r3, r4⟩ := RStmt_lit H3.out hy
        cases e5
        obtain ⟨tot2, ht2⟩ : ∃ t, t = intL (ordN (kidsOf l) (d + 1) (natL (b.drop (k + 1)))) := ⟨_, rfl⟩
        have hsplit : a ++ [(y : Int)] ++ intL (ordN (kidsOf l) d (natL l[y].qThen)) ++ intL (ordN (kidsOf l) d (natL l[y].qElse)) ++ tot2 = tot := by
          rw [← hacc, ht2]; unfold intL; simp
        have hlen := congrArg List.length hsplit
        simp only [List.length_append, List.length_singleton, intL_length] at hlen
        have HT := hide hT; have HE := hide hE; have Hsplit := hide hsplit; have Ht2 := hide ht2; have R3 := hide r3; have R4 := hide r4
        have HbB := hide hbB; have Hbk := hide hbk; have Hown1 := hide hown; have Hx := hide x3; have Hx4 := hide x4
        clear hT hE hsplit ht2 hacc r2 r3 r4 x0 x1 x2 x3 x4 hbk hown hl1 hl2 hkid hbB s0
        have hb5w : b5 < wr.heap.size := by omega
        go_wp2_with (at_builtin; refine wpList_pushG rfl _ _ _ rfl okI64 rfl Hown1.out _ rfl rfl rfl (by simp [Value.oneCell']) (by unfold maxLen; omega) (by omega) (by omega) ?_; intro v1 w1 hown1 hg1; have HG1 := hide hg1; have Ho1 := hide (show w1.ownsRow (w.heap.size + 1) 3 1 v1 (a ++ [(y : Int)]).length (icells .i64 (a ++ [(y : Int)])) by rw [List.length_append, icells_append]; exact hown1); clear hown1 hg1)
        have hne : ∀ (W : World) (u : Value) (n : Nat) (xs : List Value), W.ownsRow (w.heap.size + 1) 3 1 u n xs → some w.heap.size ≠ u.ownBlock := fun W u n xs h e => by have := (h.lt _ e.symm).1; omega
        have hg1 := HG1.out
        have hB1 := HbB.out.trans ((hg1.toBelow Hown1.out (by omega)).mono (by omega))
        have hk1 := hg1.bk Hbk.out (hne _ _ _ _ Hown1.out)
        have hz1 := hk1.lt
        have hx1 := hB1.cell (p := ⟨b5, o5 + y * 5 + 3, none⟩) hb5 |>.trans Hx.out
        have hr1 := RFunc_stable.here Hr.out hB1
        have ht1 := R3.out.rd.here hB1
        have HB1 := hide hB1; have Hk1 := hide hk1; have Hr1 := hide hr1; have Ht1 := hide ht1; have Hx1 := hide hx1
        clear hB1 hk1 hg1 hr1 ht1 hx1
        have HC1 := hide (ih l[y].qThen (.slice A6 l[y].qThen.length c6) (World.drew w1) _ Hr1.out Ht1.out HT.out (by omega))
        go_wp2_with fail
        go_region_held_law (fun w' => w'.cell? ⟨w.heap.size, 0, none⟩ = some (.int .i64 m0) ∧ w'.cell? ⟨w.heap.size, 1, none⟩ = some (.int .i64 m1) ∧ w'.cell? ⟨w.heap.size, 2, none⟩ = some (.slice A2 m2.length c2) ∧ w'.cell? ⟨w.heap.size, 3, none⟩ = some (.slice (some ⟨b5, o5, none⟩) l.length c3) ∧ w'.cell? ⟨b5, o5 + y * 5 + 3, none⟩ = some (.slice A6 l[y].qThen.length c6)) (first | exact ⟨Hk1.out.cell 0, Hk1.out.cell 1, Hk1.out.cell 2, Hk1.out.cell 3, Hx1.out⟩ | exact ⟨Hk52.out.cell 0, Hk52.out.cell 1, Hk52.out.cell 2, Hk52.out.cell 3, Hx52.out⟩ | exact ⟨Hk53.out.cell 0, Hk53.out.cell 1, Hk53.out.cell 2, Hk53.out.cell 3, Hx53.out⟩)
          (first
          | (go_at_call 128; refine (HC1.out).mono ?_; rintro e w52 ⟨t52, rfl, hown2, hb2'⟩; have Hk52 := hide (Bk.below (w := World.drew _) (by exact Hk1.out) hb2'); have HB52 := hide (HB1.out.drew.trans (hb2'.mono HB1.out.size)); have Ho52 := hide (own_keep (W := World.drew _) (by exact Ho1.out) hb2'); have Hu52 := hide hown2; have Hx52 := hide ((HB52.out.cell (p := ⟨b5, o5 + y * 5 + 3, none⟩) hb5).trans Hx.out); clear hown2 hb2')
          | (refine step_catOwn rfl 27 rfl (.tmp 18) (.tmp 26) 29 rfl okI64 (by simp [Act.eval, Act.put]) Ho52.out (by simp [Act.eval, Act.put]) Hu52.out one_icells (by simp only [List.length_append, List.length_singleton, intL_length]; unfold maxLen; omega) (by simp only [List.length_append, List.length_singleton, intL_length]; omega) Hk52.out.lt ?_; intro v53 w53 hown3 hg3; have Hk53 := hide (hg3.bk Hk52.out (hne _ _ _ _ Ho52.out)); have HB53 := hide (HB52.out.trans ((hg3.toBelow Ho52.out Hk52.out.lt).mono (by omega))); have Ho53 := hide (show w53.ownsRow (w.heap.size + 1) 3 1 v53 (a ++ [(y : Int)] ++ intL (ordN (kidsOf l) d (natL l[y].qThen))).length (icells .i64 (a ++ [(y : Int)] ++ intL (ordN (kidsOf l) d (natL l[y].qThen)))) by rw [List.length_append, icells_append]; exact hown3); have Hx53 := hide ((HB53.out.cell (p := ⟨b5, o5 + y * 5 + 3, none⟩) hb5).trans Hx.out); clear hown3 hg3))
        have hx5 := HB53.out.cell (p := ⟨b5, o5 + y * 5 + 4, none⟩) hb5 |>.trans Hx4.out
        have hr5 := RFunc_stable.here Hr.out HB53.out
        have ht5 := R4.out.rd.here HB53.out
        have hz5 := Hk53.out.lt
        have Hx5 := hide hx5; have Hr5 := hide hr5; have Ht5 := hide ht5; clear hx5 hr5 ht5
        have HC5 := hide (ih l[y].qElse (.slice A7 l[y].qElse.length c7) (World.drew w53) _ Hr5.out Ht5.out HE.out (by omega))
        go_wp2_with fail
        go_region_held_law (fun w' => w'.cell? ⟨w.heap.size, 0, none⟩ = some (.int .i64 m0) ∧ w'.cell? ⟨w.heap.size, 1, none⟩ = some (.int .i64 m1) ∧ w'.cell? ⟨w.heap.size, 2, none⟩ = some (.slice A2 m2.length c2) ∧ w'.cell? ⟨w.heap.size, 3, none⟩ = some (.slice (some ⟨b5, o5, none⟩) l.length c3) ∧ w'.cell? ⟨b5, o5 + y * 5 + 4, none⟩ = some (.slice A7 l[y].qElse.length c7)) (first | exact ⟨Hk53.out.cell 0, Hk53.out.cell 1, Hk53.out.cell 2, Hk53.out.cell 3, Hx5.out⟩ | exact ⟨Hk62.out.cell 0, Hk62.out.cell 1, Hk62.out.cell 2, Hk62.out.cell 3, Hx62.out⟩ | exact ⟨Hk63.out.cell 0, Hk63.out.cell 1, Hk63.out.cell 2, Hk63.out.cell 3, Hx63.out⟩)
          (first
          | (go_at_call 128; refine (HC5.out).mono ?_; rintro e w62 ⟨t62, rfl, hown2, hb2'⟩; have Hk62 := hide (Bk.below (w := World.drew _) (by exact Hk53.out) hb2'); have HB62 := hide (HB53.out.drew.trans (hb2'.mono HB53.out.size)); have Ho62 := hide (own_keep (W := World.drew _) (by exact Ho53.out) hb2'); have Hu62 := hide hown2; have Hx62 := hide ((HB62.out.cell (p := ⟨b5, o5 + y * 5 + 4, none⟩) hb5).trans Hx4.out); clear hown2 hb2')
          | (refine step_catOwn rfl 37 rfl (.tmp 28) (.tmp 36) 29 rfl okI64 (by simp [Act.eval, Act.put]) Ho62.out (by simp [Act.eval, Act.put]) Hu62.out one_icells (by simp only [List.length_append, List.length_singleton, intL_length]; unfold maxLen; omega) (by simp only [List.length_append, List.length_singleton, intL_length]; omega) Hk62.out.lt ?_; intro v63 w63 hown3 hg3; have Hk63 := hide (hg3.bk Hk62.out (hne _ _ _ _ Ho62.out)); have HB63 := hide (HB62.out.trans ((hg3.toBelow Ho62.out Hk62.out.lt).mono (by omega))); have Ho63 := hide (show w63.ownsRow (w.heap.size + 1) 3 1 v63 (a ++ [(y : Int)] ++ intL (ordN (kidsOf l) d (natL l[y].qThen)) ++ intL (ordN (kidsOf l) d (natL l[y].qElse))).length (icells .i64 (a ++ [(y : Int)] ++ intL (ordN (kidsOf l) d (natL l[y].qThen)) ++ intL (ordN (kidsOf l) d (natL l[y].qElse)))) by rw [List.length_append, icells_append]; exact hown3); have Hx63 := hide ((HB63.out.cell (p := ⟨b5, o5 + y * 5 + 4, none⟩) hb5).trans Hx4.out); clear hown3 hg3))
        go_wp2
        go_roundw
        case rel => exact ⟨k + 1, _, by omega, by go_num, by rw [← Hsplit.out, ← Ht2.out], Ho63.out, HB63.out, Hk63.out⟩
        case measure => simp [intOf]; omega
      · obtain rfl : k = b.length := by omega
        rw [List.drop_length] at hacc
        have e : a = tot := by rw [← hacc]; simp [natL, ord_nil, intL]
        subst e
        have Ho := hide hown; have Hgg := hide hbB; clear hown hbB hacc hbk
        go_wp2
        go_ret
        exact ⟨_, rfl, own_base Ho.out (by omega), Hgg.out⟩
end Go.Proofs.YtgkjakoagdkpcaaGreatDoor
