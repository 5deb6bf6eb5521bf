
/- l3Func: what the Go text returns. No condition. -/
import Derived.Test.YtgkjakoagdkpcaaGreatDoorPg2
import Derived.Test.YtgkjakoagdkpcaaGreatDoorPg3
import Derived.Test.YtgkjakoagdkpcaaGreatDoorPg5
import Derived.Test.YtgkjakoagdkpcaaGreatDoorPg6z
set_option linter.unusedSimpArgs false
set_option linter.unusedVariables false
set_option maxRecDepth 100000
namespace Go.Proofs.YtgkjakoagdkpcaaGreatDoor
open Go.RowKit

/-- what good blocks tell -/
theorem blocks_fwd {f : FuncM} (h : blocksB f = true) : latB f.qStmts.length 0 f.qStmts = true ∧ f.qBody.length + usesL f.qStmts = f.qStmts.length ∧ inAll f.qBody 0 (f.qStmts.length - 1) = true ∧ (ordI f.qStmts f.qBody).length = f.qStmts.length := by
  obtain ⟨fp, fv, body, l⟩ := f
  dsimp only at *
  unfold blocksB at h
  dsimp only at h
  simp only [Bool.and_eq_true, blksOk, decide_eq_true_eq] at h
  rw [blksOk_all, cnts_all] at h
  obtain ⟨⟨hb, hk⟩, hc⟩ := h
  have hb' : inAll body 0 (l.length - 1) = true := by
    have : blkOk l.length body (-1) = true := hb
    unfold blkOk at this
    rw [Bool.and_eq_true, risB_iff] at this
    rw [inAll_iff]; exact this.1.1
  have hlat : latB l.length 0 l = true := by
    rw [latB_all]
    intro j hj
    obtain ⟨h1, h2⟩ := hk j hj
    exact ⟨blkOk_in h1, blkOk_in h2⟩
  have hl := later_of hlat
  have h0 : ∀ k (hk : k < l.length), (∀ n ∈ l[k].qThen, 0 ≤ n) ∧ ∀ n ∈ l[k].qElse, 0 ≤ n := fun k hk => by
    obtain ⟨h1, h2⟩ := (latB_all l 0).1 hlat k hk
    exact ⟨nonneg_of h1 (by omega), nonneg_of h2 (by omega)⟩
  have hbn : ∀ x ∈ natL body, x < (kidsOf l).length := fun x hx => by rw [kidsOf_length]; exact natL_lt hb' (by omega) x hx
  have honce : onceB (kidsOf l) (natL body) := by
    intro m hm
    rw [kidsOf_length] at hm ⊢
    have := hc m hm
    rw [List.flatten_cons, List.count_append, count_nat (nonneg_of hb' (by omega)), count_blks hl h0] at this
    exact this
  refine ⟨hlat, ?_, hb', ?_⟩
  rotate_left
  · unfold ordI
    rw [intL_length]
    have := ord_length hl hbn (d := l.length) (by rw [kidsOf_length]; exact Nat.le_refl _) honce
    rw [this, kidsOf_length]
  have := uses_of_once hl hbn honce
  rw [natL_length, kidsOf_length] at this
  rw [← this]
  congr 1
  have e := tailE_all (l := l) l.length (Nat.le_refl _)
  rw [Nat.sub_self, List.drop_zero] at e
  rw [← e]
  have : ∀ e, e ≤ l.length → tailE (kidsOf l) e = sumTo l.length (fun k => (kid (kidsOf l) k).1.length + (kid (kidsOf l) k).2.length) - sumTo (l.length - e) (fun k => (kid (kidsOf l) k).1.length + (kid (kidsOf l) k).2.length) ∧ sumTo (l.length - e) (fun k => (kid (kidsOf l) k).1.length + (kid (kidsOf l) k).2.length) ≤ sumTo l.length (fun k => (kid (kidsOf l) k).1.length + (kid (kidsOf l) k).2.length) := by
    intro e
    induction e with
    | zero => intro _; simp [tailE]
    | succ e ih =>
      intro he
      obtain ⟨i1, i2⟩ := ih (by omega)
      have hs : sumTo (l.length - e) (fun k => (kid (kidsOf l) k).1.length + (kid (kidsOf l) k).2.length) = sumTo (l.length - (e + 1)) (fun k => (kid (kidsOf l) k).1.length + (kid (kidsOf l) k).2.length) + ((kid (kidsOf l) (l.length - (e + 1))).1.length + (kid (kidsOf l) (l.length - (e + 1))).2.length) := by
        rw [show l.length - e = (l.length - (e + 1)) + 1 by omega]; rfl
      show tailE (kidsOf l) e + edges (kidsOf l) ((kidsOf l).length - (e + 1)) = _ ∧ _
      rw [kidsOf_length]
      unfold edges
      omega
  have := (this l.length (Nat.le_refl _)).1
  rw [Nat.sub_self] at this
  rw [this]; simp [sumTo]

set_option maxHeartbeats 6400000 in
theorem spec_l3Func (cs : List Value) (m : FuncM) (params : List Int) (pv : Value) (w : World) (hr : RFunc w 0 w.heap.size cs m) (hp : Rd w w.heap.size pv params.length (icells .i64 params)) (hpl : params.length ≤ 100) (hz : szFuncN m ≤ 1048576) :
    Calls Tryz.prog 117 #[.agg cs.toArray, pv] w fun e w' => e = .returned (.bool (funcB m params)) ∧ Below w.heap.size w w' := by
  have hr0 := hr
  obtain ⟨v2, v3, rfl, h2, h3⟩ := hr
  obtain ⟨m0, m1, body, l⟩ := m
  dsimp only at *
  obtain ⟨A3, c3, rfl⟩ := h3.form
  obtain ⟨A2, c2, rfl⟩ := h2.form
  obtain ⟨Ap, cp, rfl⟩ : ∃ Ap cp, pv = .slice Ap params.length cp := by obtain ⟨Ap, cp, h, _⟩ := id hp; exact ⟨Ap, cp, h⟩
  have hbl : body.length ≤ 1048576 := by have : szFuncN ⟨m0, m1, body, l⟩ = body.length + szStmtsN l := rfl; omega
  have hel : ∀ k (h : k < l.length), l[k].qThen.length ≤ 1048576 ∧ l[k].qElse.length ≤ 1048576 := fun k h => by
    have h1 : szFuncN ⟨m0, m1, body, l⟩ = body.length + szStmtsN l := rfl
    have h2 : szStmtsN l = l.length + szStmtsL l := rfl
    have h3 := szStmtsL_mem h
    have h4 : szStmtN l[k] = l[k].qEx.length + (l[k].qThen.length + l[k].qElse.length) := rfl
    omega
  have Hel := hide hel; have Hz := hide hz; clear hel hz
  have hll := h3.long
  have f1 : inB m0 0 2 = false → funcB ⟨m0, m1, body, l⟩ params = false := fun h => by unfold funcB; simp [h]
  have f2 : inB m1 m0 6 = false → funcB ⟨m0, m1, body, l⟩ params = false := fun h => by unfold funcB; simp [h]
  have f3 : ¬ l.length ≤ 16 → funcB ⟨m0, m1, body, l⟩ params = false := fun h => by unfold funcB; simp only []; rw [decide_eq_false h]; simp
  have f5 : blocksB ⟨m0, m1, body, l⟩ = false → funcB ⟨m0, m1, body, l⟩ params = false := fun h => by unfold funcB; simp only []; rw [h]; simp
  have f4 : ¬ (sitesF 0 l).length ≤ 4 → funcB ⟨m0, m1, body, l⟩ params = false := fun h => by unfold funcB; simp only []; rw [decide_eq_false h]; simp
  have f8 : ordI l body ≠ intL (List.range l.length) → funcB ⟨m0, m1, body, l⟩ params = false := fun h => by unfold funcB; simp only []; rw [decide_eq_false h]; simp
  have f9 : (l.all fun s => stmtOk m1 params s && whOk l s) = false → funcB ⟨m0, m1, body, l⟩ params = false := fun h => by unfold funcB; simp only []; rw [h]; simp
  have ft : inB m0 0 2 = true → inB m1 m0 6 = true → l.length ≤ 16 → blocksB ⟨m0, m1, body, l⟩ = true → (sitesF 0 l).length ≤ 4 → ordI l body = intL (List.range l.length) → (l.all fun s => stmtOk m1 params s && whOk l s) = true → funcB ⟨m0, m1, body, l⟩ params = true := by
    intro a1 a2 a3 a5 a4 a8 a9; unfold funcB; simp only []; rw [a1, a2, decide_eq_true a3, a5, decide_eq_true a4, decide_eq_true a8, a9]; rfl
  generalize funcB ⟨m0, m1, body, l⟩ params = R at *
  have hb0 := (Below.refl w.heap.size w).alloc (Nat.le_refl _) (.cells #[.int .i64 m0, .int .i64 m1, .slice A2 body.length c2, .slice A3 l.length c3] 135)
  have hk0 := Bk.new w 135 #[.int .i64 m0, .int .i64 m1, .slice A2 body.length c2, .slice A3 l.length c3]
  have Hr0 := hide hr0; have H2 := hide h2; have H3 := hide h3; have Hb0 := hide hb0; have Hk0 := hide hk0; have Hp := hide hp
  clear hr0 h2 h3 hb0 hk0 hp
  have hw0 := fun w => spec_l1In m0 0 2 w
  have hw1 := fun w => spec_l1In m1 m0 6 w
  cases g1 : inB m0 0 2
  case false =>
    simp only [g1] at hw0
    have HF := hide (f1 g1); have HW0 := Lib.hid hw0; clear f1 f2 f3 f4 f5 f8 f9 ft hw0 hw1 g1
    go_enter Tryz.func117, Tryz.ntmps117
    go_wp2_with (go_at_call 28; refine (HW0.out _).mono ?_; rintro e w' ⟨rfl, rfl⟩)
    go_ret
    exact ⟨retB HF.out.symm, Hb0.out⟩
  simp only [g1] at hw0
  have ft := ft g1
  have hm0 := inB_iff.1 g1
  clear f1 g1
  cases g2 : inB m1 m0 6
  case false =>
    simp only [g2] at hw1
    have HF := hide (f2 g2); have HW0 := Lib.hid hw0; have HW1 := Lib.hid hw1; clear f2 f3 f4 f5 f8 f9 ft hw0 hw1 g2
    go_enter Tryz.func117, Tryz.ntmps117
    go_wp2_with (go_at_call 28; first | ((with_reducible refine (HW0.out _).mono ?_); rintro e w' ⟨rfl, rfl⟩) | ((with_reducible refine (HW1.out _).mono ?_); rintro e w' ⟨rfl, rfl⟩))
    go_ret
    exact ⟨retB HF.out.symm, Hb0.out⟩
  simp only [g2] at hw1
  have ft := ft g2
  have hm1 := inB_iff.1 g2
  have HW0 := Lib.hid hw0; have HW1 := Lib.hid hw1
  clear f2 g2 hw0 hw1
  by_cases g3 : l.length ≤ 16
  case neg =>
    have HF := hide (f3 g3); clear f3 f4 f5 f8 f9 ft
    have g3' : (16 : Int) < l.length := by omega
    clear g3
    go_enter Tryz.func117, Tryz.ntmps117
    go_wp2_with (go_at_call 28; first | ((with_reducible refine (HW0.out _).mono ?_); rintro e w' ⟨rfl, rfl⟩) | ((with_reducible refine (HW1.out _).mono ?_); rintro e w' ⟨rfl, rfl⟩))
    go_ret
    exact ⟨retB HF.out.symm, Hb0.out⟩
  have ft := ft g3
  clear f3
  have g3' : (l.length : Int) ≤ 16 := by omega
  have hblk := spec_l3Blocks _ ⟨m0, m1, body, l⟩ _ (RFunc_stable.here Hr0.out Hb0.out) g3 Hz.out
  cases g5 : blocksB ⟨m0, m1, body, l⟩
  case false =>
    rw [g5] at hblk
    have Hblk := hide hblk; have HF := hide (f5 g5); clear hblk f4 f5 f8 f9 ft g5
    go_enter Tryz.func117, Tryz.ntmps117
    go_wp2_with (first
      | (go_at_call 28; first | ((with_reducible refine (HW0.out _).mono ?_); rintro e w' ⟨rfl, rfl⟩) | ((with_reducible refine (HW1.out _).mono ?_); rintro e w' ⟨rfl, rfl⟩))
      | (go_at_call 127; refine (Hblk.out).mono ?_; rintro e w1 ⟨rfl, hb1⟩))
    go_ret
    exact ⟨retB HF.out.symm, Hb0.out.trans (hb1.mono Hb0.out.size)⟩
  rw [g5] at hblk
  obtain ⟨hlat, huse, hbody, hol⟩ := blocks_fwd g5
  dsimp only at hlat huse hbody hol
  have ft := ft g5
  have Hblk := hide hblk; have Hlat := hide hlat; have Hbody := hide hbody; have Hol := hide hol
  clear hblk hlat hbody hol f5 g5
  have hsites := fun w hr => spec_l3Sites [.int .i64 m0, .int .i64 m1, .slice A2 body.length c2, .slice A3 l.length c3] ⟨m0, m1, body, l⟩ w hr g3
  have Hsites := hide hsites; clear hsites
  have hsl : (sitesF 0 l).length ≤ 16 := Nat.le_trans (sitesF_length l 0) g3
  have h22 : body.length ≤ 16 ∧ usesL l ≤ 16 := by omega
  obtain ⟨hb16, hu16⟩ := h22
  by_cases g4 : (sitesF 0 l).length ≤ 4
  case neg =>
    have HF := hide (f4 g4); clear f4 f8 f9 ft
    generalize (sitesF 0 l).length = ns at *
    have g4' : (4 : Int) < ns := by omega
    clear g4
    go_enter Tryz.func117, Tryz.ntmps117
    go_wp2_with (first
      | (go_at_call 28; first | ((with_reducible refine (HW0.out _).mono ?_); rintro e w' ⟨rfl, rfl⟩) | ((with_reducible refine (HW1.out _).mono ?_); rintro e w' ⟨rfl, rfl⟩))
      | (go_at_call 127; refine (Hblk.out).mono ?_; rintro e w1 ⟨rfl, hb1⟩; have Hb1 := hide (Hb0.out.trans (hb1.mono Hb0.out.size)); have Hk1 := hide (Hk0.out.below hb1); have p0 := Hk1.out.cell 0; have p1 := Hk1.out.cell 1; have p2 := Hk1.out.cell 2; have p3 := Hk1.out.cell 3; clear hb1)
      | (go_at_call 118; refine (Hsites.out _ (RFunc_stable.here Hr0.out Hb1.out)).mono ?_; rintro e w2 ⟨sv, rfl, hown, hb2⟩; obtain ⟨As, cs', rfl⟩ := own_form hown; have Hb2 := hide (Hb1.out.trans (hb2.mono Hb1.out.size)); have Hk2 := hide (Hk1.out.below hb2); clear hown hb2 p0 p1 p2 p3; have p0 := Hk2.out.cell 0; have p1 := Hk2.out.cell 1; have p2 := Hk2.out.cell 2; have p3 := Hk2.out.cell 3))
    go_ret
    exact ⟨retB HF.out.symm, Hb2.out⟩
  have ft := ft g4
  clear f4
  have hord := ordI_bound Hlat.out hu16 (lo := 0) (by omega) Hbody.out hb16
  have hbin : ∀ x ∈ body, 0 ≤ x ∧ x < l.length ∧ l.length ≤ x + (l.length : Nat) := fun x hx => by have := (inAll_iff.1 Hbody.out) x hx; omega
  generalize (sitesF 0 l).length = ns at *
  have g4' : (ns : Int) ≤ 4 := by omega
  have hO := fun W hr hrd => spec_l3Order m0 m1 body l Hlat.out g3 l.length body (.slice A2 body.length c2) W [.int .i64 m0, .int .i64 m1, .slice A2 body.length c2, .slice A3 l.length c3] hr hrd hbin (by have := hord; unfold ordI at this; rw [intL_length] at this; omega)
  have HO := hide hO; clear hO hord hbin
  have hlto : ∀ b' : List Int, (∀ x ∈ natL b', x < l.length) → ∀ x ∈ ordI l b', ∃ y : Nat, x = (y : Int) ∧ y < l.length := fun b' hb' x hx => by
    obtain ⟨y, hy, rfl⟩ := List.mem_map.1 hx
    refine ⟨y, rfl, ?_⟩
    have := ord_lt (later_of Hlat.out) l.length (natL b') (fun z hz => by rw [kidsOf_length]; exact hb' z hz) y hy
    rwa [kidsOf_length] at this
  have Hlto := hide hlto; have F8 := hide f8; have F9 := hide f9; have FT := hide ft; clear hlto f8 f9 ft g4
  go_enter Tryz.func117, Tryz.ntmps117
  go_wp2_with (first
    | (go_at_call 28; first | ((with_reducible refine (HW0.out _).mono ?_); rintro e w' ⟨rfl, rfl⟩) | ((with_reducible refine (HW1.out _).mono ?_); rintro e w' ⟨rfl, rfl⟩))
    | (go_at_call 127; refine (Hblk.out).mono ?_; rintro e w1 ⟨rfl, hb1⟩; have Hb1 := hide (Hb0.out.trans (hb1.mono Hb0.out.size)); have Hk1 := hide (Hk0.out.below hb1); have p0 := Hk1.out.cell 0; have p1 := Hk1.out.cell 1; have p2 := Hk1.out.cell 2; have p3 := Hk1.out.cell 3; clear hb1)
    | (go_at_call 118; refine (Hsites.out _ (RFunc_stable.here Hr0.out Hb1.out)).mono ?_; rintro e w2 ⟨sv, rfl, hown, hb2⟩; obtain ⟨As, cs', rfl⟩ := own_form hown; have Hb2 := hide (Hb1.out.trans (hb2.mono Hb1.out.size)); have Hk2 := hide (Hk1.out.below hb2); clear hown hb2 p0 p1 p2 p3; have p0 := Hk2.out.cell 0; have p1 := Hk2.out.cell 1; have p2 := Hk2.out.cell 2; have p3 := Hk2.out.cell 3))
  have hOc := HO.out _ (RFunc_stable.here Hr0.out Hb2.out) (H2.out.rd.here Hb2.out)
  have HOc := hide hOc; clear hOc
  refine (HOc.out).mono ?_
  rintro e w4 ⟨ov, rfl, hown, hb4⟩
  have hown2 : w4.ownsRow w2.heap.size 3 1 ov (ordI l body).length (icells .i64 (ordI l body)) := hown
  clear hown p0 p1 p2 p3
  obtain ⟨ord, hord⟩ : ∃ o, o = ordI l body := ⟨_, rfl⟩
  have hol2 := Hol.out
  rw [← hord] at hown2 hol2
  have Hordd := hide hord
  have F8' := F8.out
  rw [← hord] at F8'
  have F8'' := hide F8'
  clear hord F8'
  have Hrd := hide (Rd.of_own hown2)
  obtain ⟨Ao, co, rfl⟩ := own_form hown2
  have Hb4 := hide (Hb2.out.trans (hb4.mono Hb2.out.size)); have Hk4 := hide (Hk2.out.below hb4)
  clear hown2 hb4
  go_wp2_with fail
  go_loop [45] (fun i => ∃ k : Nat, k ≤ ord.length ∧ i = .int .i64 k ∧ ∀ j (hj : j < ord.length), j < k → ord[j] = (j : Int)) (fun i => ord.length - (intOf i).toNat)
  case atStart => exact ⟨0, by omega, rfl, fun j _ h => by omega⟩
  case round =>
    obtain ⟨k, hk, rfl, hid⟩ := hrel
    by_cases hlt : k < ord.length
    · obtain ⟨b, o, e1, hbB, s0⟩ := Hrd.out.at_ (j := k) (by rw [icells_length]; exact hlt)
      cases e1
      rw [icells_get _ _ hlt] at s0
      by_cases hx : ord[k] = (k : Int)
      · have hbx : (((k : Nat) : Int) != ((k : Nat) : Int)) = false := by simp
        rw [hx] at s0
        have Hid' := hide hid; have Hx := hide hx; clear hid hx
        go_wp2
        go_round
        case rel =>
          refine ⟨k + 1, by omega, by go_num, fun j hj hjk => ?_⟩
          by_cases e : j = k
          · subst e; exact Hx.out
          · exact Hid'.out j hj (by omega)
        case measure => simp [intOf]; omega
      · have HF := hide (F8''.out (fun e => hx (intL_range_get e hlt)))
        generalize ord[k] = x at *
        have hbx : (((k : Nat) : Int) != x) = true := by rw [bne_iff_ne]; exact fun e => hx e.symm
        clear hid hx
        go_wp2
        go_ret
        exact ⟨retB HF.out.symm, Hb4.out⟩
    · obtain rfl : k = ord.length := by omega
      have hidd : ∀ j (hj : j < ord.length), ord[j] = (j : Int) := fun j hj => hid j hj hj
      have Hr8 := hide (intL_range_of hol2 hidd)
      clear hid hidd
      have p2 := Hk4.out.cell 2; have p3 := Hk4.out.cell 3
      have FT' := FT.out (by omega) (Hordd.out.symm.trans Hr8.out)
      have HFT := hide FT'; clear FT'
      go_wp2
      clear p2 p3
      go_loopw [57] (fun i wr => ∃ k : Nat, k ≤ l.length ∧ i = .int .i64 k ∧ (l.take k).all (fun s => stmtOk m1 params s && whOk l s) = true ∧ Below w.heap.size w wr ∧ Bk wr w.heap.size 135 #[.int .i64 m0, .int .i64 m1, .slice A2 body.length c2, .slice A3 l.length c3]) (fun i _ => l.length - (intOf i).toNat)
      case atStart => exact ⟨0, by omega, rfl, by simp, Hb4.out, Hk4.out⟩
      case round =>
        obtain ⟨k, hk, rfl, hwh, hb, hbk⟩ := hrel
        have hbs := hb.size
        have hbl7 := hbk.lt
        have p0 := hbk.cell 0; have p1 := hbk.cell 1; have p2 := hbk.cell 2; have p3 := hbk.cell 3
        by_cases hlt : k < l.length
        · obtain ⟨b, o, A5, c5, A6, c6, A7, c7, rfl, hbB, d0, d1, d2, d3, d4, x2, x3, x4⟩ := RStmt_lit H3.out hlt
          have e0 := (hb.cell (p := ⟨b, o + k * 5, none⟩) hbB).trans d0
          have e1 := (hb.cell (p := ⟨b, o + k * 5 + 1, none⟩) hbB).trans d1
          have e2 := (hb.cell (p := ⟨b, o + k * 5 + 2, none⟩) hbB).trans d2
          have e3 := (hb.cell (p := ⟨b, o + k * 5 + 3, none⟩) hbB).trans d3
          have e4 := (hb.cell (p := ⟨b, o + k * 5 + 4, none⟩) hbB).trans d4
          have hbw : b < wr.heap.size := by omega
          have hstep := fun h => all_take_step (p := fun s => stmtOk m1 params s && whOk l s) hlt hwh h
          have hfail := fun h => all_false (p := fun s => stmtOk m1 params s && whOk l s) hlt h
          obtain ⟨hl1, hl2⟩ := (latB_all l 0).1 Hlat.out k hlt
          obtain ⟨hn3, hn4⟩ := Hel.out k hlt
          have huk : l[k].qThen.length ≤ 16 := by
            have h5 : ∀ (q : List StmtM) (i : Nat) (hi : i < q.length), q[i].qThen.length ≤ usesL q := by
              intro q
              induction q with
              | nil => intro i hi; simp at hi
              | cons s q ih =>
                intro i hi
                cases i with
                | zero => simp only [usesL, List.getElem_cons_zero]; omega
                | succ i => have := ih i (by simpa using hi); simp only [usesL, List.getElem_cons_succ]; omega
            have := h5 l k hlt
            omega
          have hTb := ordI_bound Hlat.out hu16 (lo := ((0 + k : Nat) : Int) + 1) (by omega) hl1 huk
          have hTin : ∀ x ∈ l[k].qThen, 0 ≤ x ∧ x < l.length ∧ l.length ≤ x + (l.length : Nat) := fun x hx => by have := (inAll_iff.1 hl1) x hx; omega
          have hTlt := Hlto.out l[k].qThen (natL_lt hl1 (by omega))
          have Hb := hide hb; have Hbk := hide hbk; have Hstep := hide hstep; have Hfail := hide hfail; have X2 := hide x2; have X3 := hide x3; have HTin := hide hTin; have HTlt := hide hTlt
          clear hb hbk x2 x3 x4 d0 d1 d2 d3 d4 hstep hfail hwh hl1 hl2 hTin hTlt
          generalize l[k] = s at *
          obtain ⟨s0, s1, s2, s3, s4⟩ := s
          dsimp only at *
          have hB := hide (Hb.out.alloc hbs (.cells #[.int .i64 s0, .int .i64 s1, .slice A5 s2.length c5, .slice A6 s3.length c6, .slice A7 s4.length c7] 140))
          have hK := hide (Hbk.out.alloc (.cells #[.int .i64 s0, .int .i64 s1, .slice A5 s2.length c5, .slice A6 s3.length c6, .slice A7 s4.length c7] 140))
          have hS := hide (Bk.new wr 140 #[.int .i64 s0, .int .i64 s1, .slice A5 s2.length c5, .slice A6 s3.length c6, .slice A7 s4.length c7])
          have hst := spec_l3Stmt m0 m1 (.slice A2 body.length c2) (.slice (some ⟨b, o, none⟩) l.length c3) s0 s1 s2 A5 A6 A7 c5 c6 c7 s3.length s4.length params (.slice Ap params.length cp) _ (X2.out.rd.here hB.out) (Hp.out.here hB.out) hpl hn3 hn4 (by omega) (by omega)
          rw [show stmtOkN m1 params s0 s1 s2 s3.length s4.length = stmtOk m1 params ⟨s0, s1, s2, s3, s4⟩ from rfl] at hst
          cases hok : stmtOk m1 params ⟨s0, s1, s2, s3, s4⟩
          · rw [hok] at hst
            have Hst := hide hst
            have HF := hide (F9.out (Hfail.out (by simp [hok])))
            clear hst hok
            go_wp2_with (go_at_call 129; refine (Hst.out).mono ?_; rintro e w5 ⟨rfl, hb5⟩)
            go_ret
            exact ⟨retB HF.out.symm, hB.out.trans (hb5.mono hB.out.size)⟩
          · rw [hok] at hst
            have Hst := hide hst; have Hok := hide hok
            clear hst hok
            by_cases h8 : s0 = 8
            · subst h8
              have hwk : whOk l ⟨8, s1, s2, s3, s4⟩ = (ordI l s3).all fun m => decide ((l.getD m.toNat st0).qKind ≠ 3) := rfl
              obtain ⟨T, hT⟩ : ∃ T, T = ordI l s3 := ⟨_, rfl⟩
              rw [← hT] at hwk hTb
              have HTlt' := HTlt.out
              rw [← hT] at HTlt'
              have HT := hide hT; have Hwk := hide hwk; have HTl := hide HTlt'
              clear hT hwk HTlt'
              go_wp2_with (go_at_call 129; refine (Hst.out).mono ?_; rintro e w5 ⟨rfl, hb5⟩; have HB5 := hide (hB.out.trans (hb5.mono hB.out.size)); have Hk5 := hide (hK.out.below hb5); have Hs5 := hide (hS.out.below hb5); have z0 := Hk5.out.cell 0; have z1 := Hk5.out.cell 1; have z2 := Hk5.out.cell 2; have z3 := Hk5.out.cell 3; have y0 := Hs5.out.cell 0; have y3 := Hs5.out.cell 3; clear hb5)
              have hOk := spec_l3Order m0 m1 body l Hlat.out g3 l.length s3 (.slice A6 s3.length c6) w5 [.int .i64 m0, .int .i64 m1, .slice A2 body.length c2, .slice (some ⟨b, o, none⟩) l.length c3] (RFunc_stable.here Hr0.out HB5.out) (X3.out.rd.here HB5.out) HTin.out (by have h1 := hTb; rw [HT.out] at h1; unfold ordI at h1; rw [intL_length] at h1; omega)
              have HOk := hide hOk; clear hOk
              refine (HOk.out).mono ?_
              rintro e w6 ⟨tv, rfl, hown6, hb6⟩
              have hown7 : w6.ownsRow w5.heap.size 3 1 tv (ordI l s3).length (icells .i64 (ordI l s3)) := hown6
              rw [← HT.out] at hown7
              obtain ⟨At, ct, rfl⟩ := own_form hown7
              have HTr := hide (Rd.of_own hown7); have HB6 := hide (HB5.out.trans (hb6.mono HB5.out.size)); have Hk6 := hide (Hk5.out.below hb6)
              clear hown6 hown7 hb6 z0 z1 z2 z3 y0 y3
              go_wp2_with fail
              go_loop [74] (fun j => ∃ q : Nat, q ≤ T.length ∧ j = .int .i64 q ∧ (T.take q).all (fun m => decide ((l.getD m.toNat st0).qKind ≠ 3)) = true) (fun j => T.length - (intOf j).toNat)
              case atStart => exact ⟨0, by omega, rfl, by simp⟩
              case round =>
                obtain ⟨q, hq, rfl, hall⟩ := hrel
                have p3 := Hk6.out.cell 3
                by_cases hqt : q < T.length
                · obtain ⟨b9, o9, e9, hb9, t0⟩ := HTr.out.at_ (j := q) (by rw [icells_length]; exact hqt)
                  cases e9
                  rw [icells_get _ _ hqt] at t0
                  obtain ⟨y, hy, hyl⟩ := HTl.out T[q] (List.getElem_mem hqt)
                  obtain ⟨b6, o6, _, _, _, _, _, _, e6, hb6, y0, _, _, _, _, _, _, _⟩ := RStmt_lit H3.out hyl
                  cases e6
                  have y0' := (HB6.out.cell (p := ⟨b, o + y * 5, none⟩) hbB).trans y0
                  have hp := fun h => all_take_step (p := fun m => decide ((l.getD m.toNat st0).qKind ≠ 3)) hqt hall h
                  have hpf := fun h => all_false (p := fun m => decide ((l.getD m.toNat st0).qKind ≠ 3)) hqt h
                  rw [hy] at t0 hp hpf
                  have hyI : (y : Int) < (l.length : Int) := by omega
                  have hyz : (0 : Int) ≤ (y : Int) := by omega
                  have hgd : l.getD ((y : Int)).toNat st0 = l[y] := by rw [Int.toNat_natCast]; simp [List.getD, List.getElem?_eq_getElem hyl]
                  simp only [hgd] at hp hpf
                  clear hall y0 hgd hy
                  generalize l[y] = sy at *
                  by_cases hk3 : sy.qKind = 3
                  · have HF := hide (F9.out (Hfail.out (by rw [Hwk.out, hpf (by rw [hk3]; rfl)]; simp)))
                    rw [hk3] at y0'
                    clear hp hpf hk3
                    go_wp2
                    go_ret
                    exact ⟨retB HF.out.symm, HB6.out⟩
                  · have b3 : (sy.qKind == 3) = false := by rw [beq_eq_false_iff_ne]; exact hk3
                    have HP := hide (hp (decide_eq_true hk3))
                    clear hp hpf hk3
                    go_wp2
                    go_round
                    case rel => exact ⟨q + 1, by omega, by go_num, HP.out⟩
                    case measure => simp [intOf]; omega
                · obtain rfl : q = T.length := by omega
                  rw [List.take_length] at hall
                  have HS := hide (Hstep.out (by rw [Hwk.out, Hok.out]; exact hall)); clear hall p3
                  go_wp2
                  go_roundw
                  case rel => exact ⟨k + 1, by omega, by go_num, HS.out, HB6.out, Hk6.out⟩
                  case measure => simp [intOf]; omega
            · have b8 : (s0 == 8) = false := by rw [beq_eq_false_iff_ne]; exact h8
              have b8' : (s0 != 8) = true := by rw [bne_iff_ne]; exact h8
              have HS := hide (Hstep.out (by have := Hok.out; unfold whOk; rw [if_neg h8, this]; rfl))
              clear h8
              go_wp2_with (go_at_call 129; refine (Hst.out).mono ?_; rintro e w5 ⟨rfl, hb5⟩; have HB5 := hide (hB.out.trans (hb5.mono hB.out.size)); have Hk5 := hide (hK.out.below hb5); have Hs5 := hide (hS.out.below hb5); have y0 := Hs5.out.cell 0; clear hb5)
              go_roundw
              case rel => exact ⟨k + 1, by omega, by go_num, HS.out, HB5.out, Hk5.out⟩
              case measure => simp [intOf]; omega
        · obtain rfl : k = l.length := by omega
          rw [List.take_length] at hwh
          have HF := hide (HFT.out hwh)
          have Hb := hide hb; clear hb hbk hwh
          go_wp2
          go_ret
          exact ⟨retB HF.out.symm, Hb.out⟩
end Go.Proofs.YtgkjakoagdkpcaaGreatDoor
