
/- l1Rising, l3Blocks: what the Go text returns. No condition. -/
import Derived.Test.YtgkjakoagdkpcaaGreatDoorSl6
import Derived.Test.YtgkjakoagdkpcaaGreatDoorPg1
set_option linter.unusedSimpArgs false
set_option linter.unusedVariables false
set_option maxRecDepth 100000
namespace Go.Proofs.YtgkjakoagdkpcaaGreatDoor
open Go.RowKit

theorem adj_pw {l : List Int} (h : ∀ j (hj : j + 1 < l.length), l[j] < l[j + 1]) : l.Pairwise (· < ·) := by
  rw [List.pairwise_iff_getElem]
  intro i j hi hj hij
  obtain ⟨d, rfl⟩ : ∃ d, j = i + 1 + d := ⟨j - (i + 1), by omega⟩
  clear hij
  induction d with
  | zero => exact h i hj
  | succ d ih => exact Int.lt_trans (ih (by omega)) (h (i + 1 + d) hj)
set_option maxHeartbeats 1600000 in
theorem spec_l1Rising (v : Value) (l : List Int) (lo hi : Int) (w : World) (B : Nat) (hr : Rd w B v l.length (icells .i64 l)) :
    Calls Tryz.prog 136 #[v, .int .i64 lo, .int .i64 hi] w fun e w' => e = .returned (.bool (risB l lo hi)) ∧ w = w' := by
  have hl := hr.long
  obtain ⟨A, c, rfl, hn, hc, hcell⟩ := id hr
  have f1 : ∀ k (hk : k < l.length), ¬ (lo ≤ l[k] ∧ l[k] ≤ hi) → risB l lo hi = false := fun k hk h => by
    rw [Bool.eq_false_iff]; intro h2; exact h ((risB_iff.1 h2).1 _ (List.getElem_mem hk))
  have f2 : ∀ k (hk : k + 1 < l.length), ¬ l[k] < l[k + 1] → risB l lo hi = false := fun k hk h => by
    rw [Bool.eq_false_iff]; intro h2; exact h ((List.pairwise_iff_getElem.1 (risB_iff.1 h2).2) k (k + 1) (by omega) hk (by omega))
  have ft : (∀ j (hj : j < l.length), lo ≤ l[j] ∧ l[j] ≤ hi) → (∀ j (hj : j + 1 < l.length), l[j] < l[j + 1]) → risB l lo hi = true := fun h1 h2 => by
    rw [risB_iff]
    refine ⟨fun n hn => ?_, adj_pw h2⟩
    obtain ⟨j, hj, rfl⟩ := List.getElem_of_mem hn
    exact h1 j hj
  generalize risB l lo hi = R at *
  have F1 := hide f1; have F2 := hide f2; have FT := hide ft; have Hr := hide hr
  clear f1 f2 ft hr hcell hn hc
  go_enter Tryz.func136, Tryz.ntmps136
  go_wp2
  go_loop [11] (fun i => ∃ k : Nat, k ≤ l.length ∧ i = .int .i64 k ∧ (∀ j (hj : j < l.length), j < k → lo ≤ l[j] ∧ l[j] ≤ hi) ∧ (∀ j (hj : j + 1 < l.length), j + 1 < k → l[j] < l[j + 1])) (fun i => l.length - (intOf i).toNat)
  case atStart => exact ⟨0, by omega, rfl, fun j _ h => by omega, fun j _ h => by omega⟩
  case round =>
    obtain ⟨k, hk, rfl, h1, h2⟩ := hrel
    by_cases hlt : k < l.length
    · obtain ⟨b, o, e1, hbB, s0⟩ := Hr.out.at_ (j := k) (by rw [icells_length]; exact hlt)
      cases e1
      rw [icells_get _ _ hlt] at s0
      have hin := fun w => spec_l1In l[k] lo hi w
      have h1s : (lo ≤ l[k] ∧ l[k] ≤ hi) → ∀ j (hj : j < l.length), j < k + 1 → lo ≤ l[j] ∧ l[j] ≤ hi := fun h j hj hjk => by
        by_cases e : j = k
        · subst e; exact h
        · exact h1 j hj (by omega)
      have g1 := F1.out k hlt
      cases hx : inB l[k] lo hi
      · simp only [hx] at hin
        have Hin := Lib.hid hin
        have HF := hide (g1 (fun h => by rw [inB_yes h.1 h.2] at hx; cases hx))
        clear hin hx h1s g1 h1 h2
        generalize l[k] = x at *
        go_wp2_with (go_at_call 28; refine (Hin.out _).mono ?_; rintro e w' ⟨rfl, rfl⟩)
        go_ret
        exact ⟨retB HF.out.symm, rfl⟩
      · simp only [hx] at hin
        have Hin := Lib.hid hin
        have H1s := hide (h1s (inB_iff.1 hx))
        clear hin hx h1s g1 h1
        by_cases hk0 : k = 0
        · subst hk0
          rw [Nat.add_zero] at s0
          clear h2
          generalize l[0] = x at *
          go_wp2_with (go_at_call 28; refine (Hin.out _).mono ?_; rintro e w' ⟨rfl, rfl⟩)
          go_round
          case rel => exact ⟨1, by omega, by go_num, H1s.out, fun j hj h => by omega⟩
          case measure => simp [intOf]; omega
        obtain ⟨k, rfl⟩ : ∃ k', k = k' + 1 := ⟨k - 1, by omega⟩
        obtain ⟨_, _, e2, _, s1⟩ := Hr.out.at_ (j := k) (by rw [icells_length]; omega)
        cases e2
        rw [icells_get _ _ (show k < l.length by omega)] at s1
        have h2s : l[k] < l[k + 1] → ∀ j (hj : j + 1 < l.length), j + 1 < k + 1 + 1 → l[j] < l[j + 1] := fun h j hj hjk => by
          by_cases e : j = k
          · subst e; exact h
          · exact h2 j hj (by omega)
        have g2 := F2.out k hlt
        clear h2
        have hk1 : (0 : Int) < (k : Int) + 1 := by omega
        have q : ((k : Int) + 1 - 1).toNat = k := by omega
        by_cases hcc : l[k] < l[k + 1]
        · have H2s := hide (h2s (by omega))
          clear h2s g2
          generalize l[k] = y at *
          generalize l[k + 1] = x at *
          have hnle : ¬ x ≤ y := by omega
          clear hcc
          go_wp2_with (go_at_call 28; refine (Hin.out _).mono ?_; rintro e w' ⟨rfl, rfl⟩)
          go_round
          case rel => exact ⟨k + 1 + 1, by omega, by go_num, H1s.out, H2s.out⟩
          case measure => simp [intOf]; omega
        · have HF := hide (g2 (by omega))
          clear h2s g2
          generalize l[k] = y at *
          generalize l[k + 1] = x at *
          have hc' : x ≤ y := by omega
          clear hcc
          go_wp2_with (go_at_call 28; refine (Hin.out _).mono ?_; rintro e w' ⟨rfl, rfl⟩)
          go_ret
          exact ⟨retB HF.out.symm, rfl⟩
    · obtain rfl : k = l.length := by omega
      have HF := hide (FT.out (fun j hj => h1 j hj hj) (fun j hj => h2 j hj hj))
      clear h1 h2
      go_wp2
      go_ret
      exact ⟨retB HF.out.symm, rfl⟩

theorem all_take_step' {α : Type} {p : α → Bool} {l : List α} {k : Nat} (hk : k < l.length) (h1 : (l.take k).all p = true) (h2 : p l[k] = true) : (l.take (k + 1)).all p = true := by
  rw [List.take_succ_eq_append_getElem hk, List.all_append, h1]; simp [h2]
theorem all_false' {α : Type} {p : α → Bool} {l : List α} {k : Nat} (hk : k < l.length) (h2 : p l[k] = false) : l.all p = false := by
  rw [Bool.eq_false_iff]; intro h; rw [List.all_eq_true] at h; have := h _ (List.getElem_mem hk); rw [h2] at this; cases this
/-- the values of a slice of blocks, each of which reads so -/
def BlkV (w : World) (xs : List Value) (bl : List (List Int)) : Prop := xs.length = bl.length ∧ ∀ i (h : i < bl.length), ∃ A c, xs[i]? = some (.slice A bl[i].length c) ∧ Rd w w.heap.size (.slice A bl[i].length c) bl[i].length (icells .i64 bl[i])
theorem BlkV.two {w : World} {xs : List Value} {bl : List (List Int)} (h : BlkV w xs bl) {A A' : Option Addr} {c c' : Nat} {p q : List Int} (h1 : Rd w w.heap.size (.slice A p.length c) p.length (icells .i64 p)) (h2 : Rd w w.heap.size (.slice A' q.length c') q.length (icells .i64 q)) :
    BlkV w (xs ++ [.slice A p.length c, .slice A' q.length c']) (bl ++ [p, q]) := by
  refine ⟨by simp [h.1], fun i hi => ?_⟩
  by_cases h3 : i < bl.length
  · obtain ⟨B, d, e1, e2⟩ := h.2 i h3
    refine ⟨B, d, ?_, ?_⟩
    · rw [List.getElem?_append_left (by rw [h.1]; exact h3), e1, List.getElem_append_left h3]
    · rw [List.getElem_append_left h3]; exact e2
  · have hi' : i < bl.length + 2 := by simpa using hi
    rcases (show i = bl.length ∨ i = bl.length + 1 by omega) with rfl | rfl
    · refine ⟨A, c, ?_, ?_⟩
      · rw [List.getElem?_append_right (by rw [h.1]; exact Nat.le_refl _), h.1]; simp
      · simpa using h1
    · refine ⟨A', c', ?_, ?_⟩
      · rw [List.getElem?_append_right (by rw [h.1]; omega), h.1]; simp
      · have : (bl ++ [p, q])[bl.length + 1]'hi = q := by simp
        rw [this]; exact h2
theorem blksF_take {l : List StmtM} {k : Nat} (h : k < l.length) : blksF (l.take (k + 1)) = blksF (l.take k) ++ [l[k].qThen, l[k].qElse] := by
  have hb : ∀ (p q : List StmtM), blksF (p ++ q) = blksF p ++ blksF q := by
    intro p q
    induction p with
    | nil => rfl
    | cons a p ih => simp only [List.cons_append, blksF]; rw [ih]
  rw [List.take_succ_eq_append_getElem h, hb]; rfl
theorem ownF_app : ∀ (p : List StmtM) (s : Nat) (x : StmtM), ownF s (p ++ [x]) = ownF s p ++ [((s + p.length : Nat) : Int), ((s + p.length : Nat) : Int)] := by
  intro p
  induction p with
  | nil => intro s x; rfl
  | cons a p ih => intro s x; simp only [List.cons_append, ownF]; rw [ih]; simp [show s + 1 + p.length = s + (p.length + 1) by omega]
theorem ownF_take {l : List StmtM} {k : Nat} (h : k < l.length) : ownF 0 (l.take (k + 1)) = ownF 0 (l.take k) ++ [(k : Int), (k : Int)] := by
  rw [List.take_succ_eq_append_getElem h, ownF_app]; simp [Nat.min_eq_left (Nat.le_of_lt h)]
theorem blksF_length (l : List StmtM) : (blksF l).length = 2 * l.length := by
  induction l with
  | nil => rfl
  | cons a l ih => simp only [blksF, List.length_cons, ih]; omega
theorem ownF_length (l : List StmtM) : ∀ s, (ownF s l).length = 2 * l.length := by
  induction l with
  | nil => intro s; rfl
  | cons a l ih => intro s; simp only [ownF, List.length_cons, ih]; omega
theorem blksOk_step {n : Nat} {bl : List (List Int)} {os : List Int} {k : Nat} (h1 : k < bl.length) (h2 : k < os.length) : blksOk n (bl.drop k) (os.drop k) = (blkOk n bl[k] os[k] && blksOk n (bl.drop (k + 1)) (os.drop (k + 1))) := by
  rw [List.drop_eq_getElem_cons h1, List.drop_eq_getElem_cons h2]; rfl
/-- how often each number below n stands in a list -/
def cl (n : Nat) (L : List Int) : List Int := (List.range n).map fun (m : Nat) => ((L.count (m : Int) : Nat) : Int)
theorem cl_length (n : Nat) (L : List Int) : (cl n L).length = n := by simp [cl]
theorem cl_get {n : Nat} {L : List Int} {m : Nat} (h : m < n) : (cl n L)[m]'(by rw [cl_length]; exact h) = ((L.count (m : Int) : Nat) : Int) := by simp [cl]
theorem cl_nil (n : Nat) : cl n [] = List.replicate n 0 := by
  apply List.ext_getElem
  · simp [cl]
  · intro i h1 h2; simp [cl]
theorem cl_set {n : Nat} {L : List Int} {m : Nat} (h : m < n) : (cl n L).set m (((L.count (m : Int) : Nat) : Int) + 1) = cl n (L ++ [(m : Int)]) := by
  apply List.ext_getElem
  · simp [cl]
  · intro i h1 h2
    have hi : i < n := by simpa [cl] using h2
    have e3 : (cl n (L ++ [(m : Int)]))[i]'h2 = (((L ++ [(m : Int)]).count (i : Int) : Nat) : Int) := by simp [cl]
    rw [e3, List.getElem_set, List.count_append, List.count_cons]
    by_cases e : m = i
    · subst e; simp
    · have e2 : ¬ (m : Int) = (i : Int) := by omega
      rw [if_neg e, cl_get hi]; simp [e2]
theorem cnts_cl (n : Nat) (bs : List (List Int)) : cnts n bs = cl n bs.flatten := rfl
theorem take_flat {bl : List (List Int)} {k : Nat} (h : k < bl.length) : (bl.take (k + 1)).flatten = (bl.take k).flatten ++ bl[k] := by
  rw [List.take_succ_eq_append_getElem h, List.flatten_append]; simp
theorem flat_bound {bl : List (List Int)} (h : ∀ b ∈ bl, b.length ≤ 1048576) : ∀ k, k ≤ bl.length → (bl.take k).flatten.length ≤ 1048576 * k := by
  intro k
  induction k with
  | zero => intro _; simp
  | succ k ih =>
    intro hk
    have := ih (by omega)
    have h2 := h bl[k] (List.getElem_mem (by omega))
    rw [take_flat (show k < bl.length by omega), List.length_append]
    omega

theorem okI64S : SliceOk Tryz.prog 160 29 (.slice none 0 0) 1 24 := .mk Tryz.underlying160 (by kernel_rfl) rfl (by decide)
set_option maxHeartbeats 6400000 in
theorem spec_l3Blocks (cs : List Value) (m : FuncM) (w : World) (hr : RFunc w 0 w.heap.size cs m) (hl16 : m.qStmts.length ≤ 16) (hz : szFuncN m ≤ 1048576) :
    Calls Tryz.prog 127 #[.agg cs.toArray] w fun e w' => e = .returned (.bool (blocksB m)) ∧ Below w.heap.size w w' := by
  obtain ⟨v2, v3, rfl, h2, h3⟩ := hr
  obtain ⟨m0, m1, body, l⟩ := m
  dsimp only at *
  obtain ⟨A3, c3, rfl⟩ := h3.form
  obtain ⟨A2, c2, rfl⟩ := h2.form
  have hbl : body.length ≤ 1048576 := by have : szFuncN ⟨m0, m1, body, l⟩ = body.length + szStmtsN l := rfl; omega
  have hel : ∀ b ∈ body :: blksF l, b.length ≤ 1048576 := by
    intro b hb
    rcases List.mem_cons.1 hb with rfl | hb
    · exact hbl
    · have key : ∀ (q : List StmtM), (∀ k (h : k < q.length), q[k].qThen.length ≤ 1048576 ∧ q[k].qElse.length ≤ 1048576) → ∀ b ∈ blksF q, b.length ≤ 1048576 := by
        intro q
        induction q with
        | nil => intro _ b hb; simp [blksF] at hb
        | cons s q ih =>
          intro h b hb
          have h0 := h 0 (by simp)
          simp only [blksF, List.mem_cons] at hb
          rcases hb with rfl | rfl | hb
          · exact h0.1
          · exact h0.2
          · exact ih (fun k hk => by have := h (k + 1) (by simpa using hk); simpa using this) b hb
      refine key l (fun k h => ?_) b hb
      have h1 : szFuncN ⟨m0, m1, body, l⟩ = body.length + szStmtsN l := rfl
      have h2 : szStmtsN l = l.length + szStmtsL l := rfl
      have h3 := szStmtsL_mem h
      have h4 : szStmtN l[k] = l[k].qEx.length + (l[k].qThen.length + l[k].qElse.length) := rfl
      omega
  have hR : blocksB ⟨m0, m1, body, l⟩ = (blksOk l.length (body :: blksF l) (-1 :: ownF 0 l) && inAll (cl l.length (body :: blksF l).flatten) 1 1) := rfl
  rw [hR]
  obtain ⟨BL, hBL⟩ : ∃ B, B = body :: blksF l := ⟨_, rfl⟩
  obtain ⟨OS, hOS⟩ : ∃ O, O = -1 :: ownF 0 l := ⟨_, rfl⟩
  have hBLl : BL.length = 2 * l.length + 1 := by rw [hBL, List.length_cons, blksF_length]
  have hOSl : OS.length = 2 * l.length + 1 := by rw [hOS, List.length_cons, ownF_length]
  rw [← hBL] at hel
  rw [← hBL, ← hOS]
  have ff : ∀ k, k < BL.length → blksOk l.length BL OS = blksOk l.length (BL.drop k) (OS.drop k) → blksOk l.length (BL.drop k) (OS.drop k) = false → (blksOk l.length BL OS && inAll (cl l.length BL.flatten) 1 1) = false := fun k _ h1 h2 => by rw [h1, h2]; rfl
  have fe : blksOk l.length BL OS = true → (blksOk l.length BL OS && inAll (cl l.length BL.flatten) 1 1) = inAll (cl l.length BL.flatten) 1 1 := fun h => by rw [h]; rfl
  generalize (blksOk l.length BL OS && inAll (cl l.length BL.flatten) 1 1) = R at *
  have hb0 := (Below.refl w.heap.size w).alloc (Nat.le_refl _) (.cells #[.int .i64 m0, .int .i64 m1, .slice A2 body.length c2, .slice A3 l.length c3] 135)
  have hk0 := Bk.new w 135 #[.int .i64 m0, .int .i64 m1, .slice A2 body.length c2, .slice A3 l.length c3]
  have H2 := hide h2; have H3 := hide h3; have Hb0 := hide hb0; have Hk0 := hide hk0; have HBL := hide hBL; have HOS := hide hOS; have FF := hide ff; have FE := hide fe; have Hel := hide hel
  clear h2 h3 hb0 hk0 hBL hOS ff fe hel hz hR
  go_enter Tryz.func127, Tryz.ntmps127
  go_wp2_with (at_make; go_must (refine wpList_makeN rfl _ _ _ rfl okI64 l.length rfl rfl (by omega) (by unfold maxLen; omega) ?_); intro w1 hown1 hb1; have Hs1 := hide hown1; have Hb1 := hide (Hb0.out.trans (hb1.mono Hb0.out.size)); have Hk1 := hide (Hk0.out.below hb1); have q2 := Hk1.out.cell 2; have q3 := Hk1.out.cell 3; have hkl := Hk1.out.lt; clear hown1 hb1)
  have hs1l := (Hs1.out.lt _ rfl).2
  have e1 : (w.alloc (.cells #[.int .i64 m0, .int .i64 m1, .slice A2 body.length c2, .slice A3 l.length c3] 135)).heap.size = w.heap.size + 1 := World.size_alloc _ _
  have hown1 := Hs1.out
  rw [made_int, e1] at hown1
  rw [e1] at hs1l
  have hB2 := (Hb1.out.alloc Hb1.out.size (.cells #[.slice A2 body.length c2] 29)).alloc (by rw [World.size_alloc]; have := Hb1.out.size; omega) (.cells #[.int .i64 (-1)] 3)
  have hK2 := (Hk1.out.alloc (.cells #[.slice A2 body.length c2] 29)).alloc (.cells #[.int .i64 (-1)] 3)
  have hbv := (World.ownsRow_lit (base := w.heap.size + 1) (e := 29) (size := 1) w1 #[.slice A2 body.length c2] 1 (by omega) (by unfold maxLen; omega) rfl).alloc (.cells #[.int .i64 (-1)] 3)
  have hov := World.ownsRow_lit (base := w.heap.size + 1) (e := 3) (size := 1) (w1.alloc (.cells #[.slice A2 body.length c2] 29)) #[.int .i64 (-1)] 1 (by rw [World.size_alloc]; omega) (by unfold maxLen; omega) rfl
  have hsv := (hown1.alloc (.cells #[.slice A2 body.length c2] 29)).alloc (.cells #[.int .i64 (-1)] 3)
  rw [World.size_alloc] at hov
  have HB2 := hide hB2; have HK2 := hide hK2; have Hbv := hide hbv; have Hov := hide hov; have Hsv := hide hsv
  clear hB2 hK2 hbv hov hsv hown1 q2 q3
  go_loopw [4, 5, 23] (fun bv ov i wr => ∃ (k : Nat) (xs : List Value), k ≤ l.length ∧ i = .int .i64 k ∧ BlkV w xs (body :: blksF (l.take k)) ∧ wr.ownsRow (w.heap.size + 1) 29 1 bv (2 * k + 1) xs ∧ wr.ownsRow (w.heap.size + 1) 3 1 ov (2 * k + 1) (icells .i64 (-1 :: ownF 0 (l.take k))) ∧
    wr.ownsRow (w.heap.size + 1) 3 1 (.slice (some ⟨w.heap.size + 1, 0, none⟩) l.length l.length) l.length (icells .i64 (List.replicate l.length 0)) ∧ ov.ownBlock ≠ some (w.heap.size + 1) ∧ Below w.heap.size w wr ∧ Bk wr w.heap.size 135 #[.int .i64 m0, .int .i64 m1, .slice A2 body.length c2, .slice A3 l.length c3]) (fun _ _ i _ => l.length - (intOf i).toNat)
  case atStart =>
    refine ⟨0, [.slice A2 body.length c2], by omega, rfl, ⟨rfl, fun i hi => ?_⟩, Hbv.out, Hov.out, Hsv.out, ?_, HB2.out, HK2.out⟩
    · obtain rfl : i = 0 := by simp [blksF] at hi; omega
      exact ⟨A2, c2, rfl, H2.out.rd⟩
    · intro h; simp only [Value.ownBlock, Option.some.injEq] at h; omega
  case round =>
    obtain ⟨k, xs, hk, rfl, hbk, hbv, hov, hsv, hne, hb, hkk⟩ := hrel
    by_cases hlt : k < l.length
    · obtain ⟨b, o, A5, c5, A6, c6, A7, c7, rfl, hbB, d0, d1, d2, d3, d4, x2, x3, x4⟩ := RStmt_lit H3.out hlt
      have e0 := (hb.cell (p := ⟨b, o + k * 5, none⟩) hbB).trans d0
      have e1 := (hb.cell (p := ⟨b, o + k * 5 + 1, none⟩) hbB).trans d1
      have e2 := (hb.cell (p := ⟨b, o + k * 5 + 2, none⟩) hbB).trans d2
      have e3 := (hb.cell (p := ⟨b, o + k * 5 + 3, none⟩) hbB).trans d3
      have e4 := (hb.cell (p := ⟨b, o + k * 5 + 4, none⟩) hbB).trans d4
      have hbs := hb.size
      have hkl2 := hkk.lt
      have hbw : b < wr.heap.size := by omega
      have hT := blksF_take hlt
      have hO := ownF_take hlt
      have hBn := fun A c A' c' p q h1 h2 => hbk.two (A := A) (c := c) (A' := A') (c' := c') (p := p) (q := q) h1 h2
      have HBn := hide (hBn _ _ _ _ _ _ x3.rd x4.rd)
      clear hBn hbk x2 x3 x4 d0 d1 d2 d3 d4
      rw [List.cons_append] at HBn
      rw [← hT] at HBn
      have HT := hide hT; have HO := hide hO; clear hT hO
      generalize l[k] = s at *
      obtain ⟨s0, s1, s2, s3, s4⟩ := s
      dsimp only at *
      have Hbv := hide (hbv.alloc (.cells #[.int .i64 s0, .int .i64 s1, .slice A5 s2.length c5, .slice A6 s3.length c6, .slice A7 s4.length c7] 140))
      have Hov := hide (hov.alloc (.cells #[.int .i64 s0, .int .i64 s1, .slice A5 s2.length c5, .slice A6 s3.length c6, .slice A7 s4.length c7] 140))
      have Hsv := hide (hsv.alloc (.cells #[.int .i64 s0, .int .i64 s1, .slice A5 s2.length c5, .slice A6 s3.length c6, .slice A7 s4.length c7] 140))
      have HB := hide (hb.alloc hbs (.cells #[.int .i64 s0, .int .i64 s1, .slice A5 s2.length c5, .slice A6 s3.length c6, .slice A7 s4.length c7] 140))
      have HK := hide (hkk.alloc (.cells #[.int .i64 s0, .int .i64 s1, .slice A5 s2.length c5, .slice A6 s3.length c6, .slice A7 s4.length c7] 140))
      clear hbv hov hsv hb hkk
      have hnb : ∀ (W : World) (u : Value) (n : Nat) (e : TypeId) (z : Nat) (ys : List Value), W.ownsRow (w.heap.size + 1) e z u n ys → some w.heap.size ≠ u.ownBlock := fun W u n e z ys h e2 => by have := (h.lt _ e2.symm).1; omega
      have hK1l := HK.out.lt
      go_wp2_with (first
        | (at_builtin; refine wpList_pushM rfl _ _ _ rfl okI64S rfl Hbv.out _ rfl (by rw [World.size_alloc]) rfl (by simp [Value.oneCell']) (by unfold maxLen; omega) (by omega) (by omega) ?_; intro v2 w2 hown2 hg2; have Hbv2 := hide hown2; have Hov2 := hide (own_gro Hov.out hg2 (fun g h => own_types Hov.out Hbv.out (by decide) h)); have Hsv2 := hide (own_gro Hsv.out hg2 (fun g h => own_types Hsv.out Hbv.out (by decide) h)); have HB2 := hide (HB.out.trans ((hg2.toBelow Hbv.out (by omega)).mono (by omega))); have HK2 := hide (hg2.bk HK.out (hnb _ _ _ _ _ _ Hbv.out)); have hK2l := HK2.out.lt; clear hown2 hg2)
        | (at_builtin; refine wpList_pushM rfl _ _ _ rfl okI64 rfl Hov2.out _ rfl rfl rfl (by simp [Value.oneCell']) (by unfold maxLen; omega) (by omega) (by omega) ?_; intro v3 w3 hown3 hg3; have Hov3 := hide hown3; have Hbv3 := hide (own_gro Hbv2.out hg3 (fun g h => own_types Hbv2.out Hov2.out (by decide) h)); have Hsv3 := hide (own_gro Hsv2.out hg3 (fun g h e => by simp only [Value.ownBlock, Option.some.injEq] at h; subst h; exact hne e)); have HB3 := hide (HB2.out.trans ((hg3.toBelow Hov2.out (by omega)).mono (by omega))); have HK3 := hide (hg3.bk HK2.out (hnb _ _ _ _ _ _ Hov2.out)); have HG3 := hide hg3.b; clear hown3 hg3))
      go_roundw
      case rel =>
        have hs2 : w.heap.size + 1 < w2.heap.size := (Hsv2.out.lt _ rfl).2
        refine ⟨k + 1, _, by omega, by go_num, HBn.out, by rw [show 2 * (k + 1) + 1 = 2 * k + 1 + 2 by omega]; exact Hbv3.out, ?_, Hsv3.out, ?_, HB3.out, HK3.out⟩
        · rw [show 2 * (k + 1) + 1 = 2 * k + 1 + 2 by omega, HO.out]
          have := Hov3.out
          simpa [icells] using this
        · rcases HG3.out with e | ⟨j, e, hj⟩
          · rw [e]; exact hne
          · rw [e]; intro e2; injection e2 with e2; omega
      case measure => simp [intOf]; omega
    · obtain rfl : k = l.length := by omega
      rw [List.take_length] at hbk hov
      rw [← HBL.out] at hbk
      rw [← HOS.out] at hov
      obtain ⟨N2, hN2⟩ : ∃ N, N = 2 * l.length + 1 := ⟨_, rfl⟩
      rw [← hN2] at hbv hov hBLl hOSl
      obtain ⟨gb, cb, rfl⟩ := own_some hbv (by omega)
      obtain ⟨go, co, rfl⟩ := own_some hov (by omega)
      have hgoN : go ≠ w.heap.size + 1 := fun e => hne (by rw [e]; rfl)
      have hbvlen := hbv.lt gb rfl
      have Hbk := hide hbk; have Hbv := hide hbv; have Hov := hide hov; have Hsv := hide hsv; have HB := hide hb; have HK := hide hkk
      have hcapb : N2 ≤ 9223372036854775807 := by omega
      clear hbk hbv hov hsv hb hkk
      go_wp2_with fail
      go_loopw [43] (fun i wr => ∃ k : Nat, k ≤ BL.length ∧ i = .int .i64 k ∧ blksOk l.length BL OS = blksOk l.length (BL.drop k) (OS.drop k) ∧ wr.ownsRow (w.heap.size + 1) 29 1 (.slice (some ⟨gb, 0, none⟩) N2 cb) N2 xs ∧ wr.ownsRow (w.heap.size + 1) 3 1 (.slice (some ⟨go, 0, none⟩) N2 co) N2 (icells .i64 OS) ∧
        wr.ownsRow (w.heap.size + 1) 3 1 (.slice (some ⟨w.heap.size + 1, 0, none⟩) l.length l.length) l.length (icells .i64 (cl l.length (BL.take k).flatten)) ∧ Below w.heap.size w wr ∧ Bk wr w.heap.size 135 #[.int .i64 m0, .int .i64 m1, .slice A2 body.length c2, .slice A3 l.length c3]) (fun i _ => BL.length - (intOf i).toNat)
      case atStart => exact ⟨0, by omega, rfl, by simp, Hbv.out, Hov.out, by rw [List.take_zero, List.flatten_nil, cl_nil]; exact Hsv.out, HB.out, HK.out⟩
      case round =>
        obtain ⟨k, hk, rfl, hok, hbv, hov, hsv, hb, hkk⟩ := hrel
        have hbs := hb.size
        by_cases hlt : k < BL.length
        · have hltO : k < OS.length := by omega
          have hkN : k < N2 := by omega
          obtain ⟨A, c, hxk, hrd⟩ := Hbk.out.2 k hlt
          have hcx := hbv.cellAt k (by omega)
          rw [hxk] at hcx
          have hco := hov.cellAt k (by omega)
          rw [show (icells .i64 OS)[k]? = some (.int .i64 OS[k]) by rw [List.getElem?_eq_getElem (by rw [icells_length]; exact hltO), icells_get _ _ hltO]] at hco
          have hgbl := (hbv.lt gb rfl).2
          have hstep := blksOk_step (n := l.length) hlt hltO
          have hbound := flat_bound Hel.out k (by omega)
          have hlenb := Hel.out BL[k] (List.getElem_mem hlt)
          have hflat := take_flat hlt
          have ffk := FF.out k hlt hok
          rw [hstep] at hok ffk
          have hris := fun (w : World) (hrr : Rd w w.heap.size (.slice A BL[k].length c) BL[k].length (icells .i64 BL[k])) => spec_l1Rising (.slice A BL[k].length c) BL[k] 0 (l.length - 1) w w.heap.size hrr
          have q3 := hkk.cell 3
          have hblk : blkOk l.length BL[k] OS[k] = (risB BL[k] 0 (l.length - 1) && BL[k].all fun x => decide (OS[k] < x)) := rfl
          have Hrd := hide hrd; have Hbv := hide hbv; have Hov := hide hov; have Hsv := hide hsv; have HB := hide hb; have HK := hide hkk; have Hok := hide hok; have Hffk := hide ffk; have Hco := hide hco; have Hflat := hide hflat
          clear hrd hbv hov hsv hb hkk hok ffk hstep hxk hco hflat
          generalize BL[k] = B at *
          generalize OS[k] = ow at *
          generalize (BL.take k).flatten = PF at *
          cases hr : risB B 0 (l.length - 1)
          · have HF := hide (Hffk.out (by rw [hblk, hr]; rfl))
            simp only [hr] at hris
            have Hris := Lib.hid hris; clear hris hr hblk
            go_wp2_with (go_at_call 136; refine (Hris.out _ (Hrd.out.here HB.out)).mono ?_; rintro e w' ⟨rfl, rfl⟩)
            go_ret
            exact ⟨retB HF.out.symm, HB.out⟩
          · simp only [hr] at hris
            have Hris := Lib.hid hris
            have hBin := (risB_iff.1 hr).1
            rw [hr, Bool.true_and] at hblk
            have HBin := hide hBin; have Hblk := hide hblk
            clear hris hr hBin hblk
            have hLb : B.length ≤ 9223372036854775807 := by omega
            go_wp2_with (go_at_call 136; refine (Hris.out _ (Hrd.out.here HB.out)).mono ?_; rintro e w' ⟨rfl, rfl⟩)
            clear hcx q3
            go_loopw [57] (fun j wq => ∃ q : Nat, q ≤ B.length ∧ j = .int .i64 q ∧ (B.take q).all (fun x => decide (ow < x)) = true ∧ wq.ownsRow (w.heap.size + 1) 29 1 (.slice (some ⟨gb, 0, none⟩) N2 cb) N2 xs ∧ wq.ownsRow (w.heap.size + 1) 3 1 (.slice (some ⟨go, 0, none⟩) N2 co) N2 (icells .i64 OS) ∧
              wq.ownsRow (w.heap.size + 1) 3 1 (.slice (some ⟨w.heap.size + 1, 0, none⟩) l.length l.length) l.length (icells .i64 (cl l.length (PF ++ B.take q))) ∧ Below w.heap.size w wq ∧ Bk wq w.heap.size 135 #[.int .i64 m0, .int .i64 m1, .slice A2 body.length c2, .slice A3 l.length c3] ∧ wq.cell? ⟨go, k, none⟩ = some (.int .i64 ow)) (fun j _ => B.length - (intOf j).toNat)
            case atStart => exact ⟨0, by omega, rfl, by simp, Hbv.out, Hov.out, by simpa using Hsv.out, HB.out, HK.out, Hco.out⟩
            case round =>
              obtain ⟨q, hq, rfl, hall, hbv, hov, hsv, hb, hkk, hcow⟩ := hrel
              by_cases hqt : q < B.length
              · obtain ⟨b9, o9, e9, hb9, t0⟩ := (Hrd.out.here hb).at_ (j := q) (by rw [icells_length]; exact hqt)
                cases e9
                rw [icells_get _ _ hqt] at t0
                have hx := HBin.out B[q] (List.getElem_mem hqt)
                have hp := fun h => all_take_step' (p := fun x => decide (ow < x)) hqt hall h
                have hpf := fun h => all_false' (p := fun x => decide (ow < x)) hqt h
                have htk : B.take (q + 1) = B.take q ++ [B[q]] := List.take_succ_eq_append_getElem hqt
                have hgo := (hov.lt go rfl).2
                have hcnt : ∀ m : Nat, m < l.length → ((PF ++ B.take q).count (m : Int)) ≤ 1048576 * 40 := fun m _ => by
                  have h1 := List.count_le_length (a := (m : Int)) (l := PF ++ B.take q)
                  rw [List.length_append, List.length_take] at h1
                  omega
                have Htk := hide htk; have Hcnt := hide hcnt
                clear htk hcnt
                generalize B[q] = x at *
                obtain ⟨y, rfl⟩ := Int.eq_ofNat_of_zero_le hx.1
                have hy : y < l.length := by have := hx.2; omega
                have hyI : (y : Int) < (l.length : Int) := by omega
                have hy0 : (0 : Int) ≤ (y : Int) := by omega
                by_cases hlo : ow < (y : Int)
                · have hcs := hsv.cellAt y (by omega)
                  rw [show (icells .i64 (cl l.length (PF ++ B.take q)))[y]? = some (.int .i64 (((PF ++ B.take q).count (y : Int) : Nat) : Int)) by rw [List.getElem?_eq_getElem (by rw [icells_length, cl_length]; exact hy), icells_get _ _ (by rw [cl_length]; exact hy), cl_get hy]] at hcs
                  have hfz := hsv.frozenAt y
                  have hcb := Hcnt.out y hy
                  have HP := hide (hp (decide_eq_true hlo))
                  have hset := cl_set (L := PF ++ B.take q) hy
                  have hnle : ¬ (y : Int) ≤ ow := by omega
                  have Hset := hide hset; have Hbq := hide hbv; have Hoq := hide hov; have Hsq := hide hsv; have HbB := hide hb; have HkK := hide hkk
                  have hgs := (hsv.lt _ rfl).2
                  clear hp hpf hset hbv hov hsv hb hkk hall hlo
                  generalize (PF ++ B.take q).count (y : Int) = cnt at *
                  go_wp2
                  go_roundw
                  case rel =>
                    refine ⟨q + 1, by omega, by go_num, HP.out, own_far Hbq.out _ (fun g h => ?_), own_far Hoq.out _ (fun g h => ?_), ?_, HbB.out.setCell (by dsimp only; omega) _, HkK.out.far (by omega) _ _, ?_⟩
                    · intro e; exact own_types Hbq.out Hsq.out (by decide) h (by rw [e]; rfl)
                    · simp only [Value.ownBlock, Option.some.injEq] at h; subst h; exact hgoN
                    · have := own_set Hsq.out y (.int .i64 ((cnt : Int) + 1))
                      rw [icells_set, Hset.out] at this
                      rw [Htk.out, ← List.append_assoc]
                      exact this
                    · rw [World.cell?_setCell_other _ _ _ _ (by intro h; injection h with h _ _; exact hgoN h.symm)]; exact hcow
                  case measure => simp [intOf]; omega
                · have HF := hide (Hffk.out (by rw [Hblk.out, hpf (decide_eq_false hlo)]; rfl))
                  have hle : (y : Int) ≤ ow := by omega
                  have HbB := hide hb
                  clear hp hpf hlo hall hbv hov hsv hb hkk
                  go_wp2
                  go_ret
                  exact ⟨retB HF.out.symm, HbB.out⟩
              · obtain rfl : q = B.length := by omega
                rw [List.take_length] at hall hsv
                have HO := hide (Hok.out.trans (by rw [Hblk.out, hall, Bool.true_and]))
                have Hsq := hide hsv; have Hbq := hide hbv; have Hoq := hide hov; have HbB := hide hb; have HkK := hide hkk
                clear hsv hbv hov hb hkk hall hcow
                go_wp2
                go_roundw
                case rel => exact ⟨k + 1, by omega, by go_num, HO.out, Hbq.out, Hoq.out, by rw [Hflat.out]; exact Hsq.out, HbB.out, HkK.out⟩
                case measure => simp [intOf]; omega
        · obtain rfl : k = BL.length := by omega
          rw [List.take_length] at hsv
          have hnil : blksOk l.length (BL.drop BL.length) (OS.drop BL.length) = true := by rw [List.drop_length]; rfl
          have HF := hide (FE.out (hok.trans hnil))
          have hall := spec_l1All (.slice (some ⟨w.heap.size + 1, 0, none⟩) l.length l.length) (cl l.length BL.flatten) 1 1 wr wr.heap.size (by rw [cl_length]; exact Rd.of_own hsv)
          have Hall := hide hall; have HB := hide hb
          clear hall hnil hok hbv hov hsv hb hkk
          go_wp2_with (go_at_call 83; refine (Hall.out).mono ?_; rintro e w' ⟨rfl, rfl⟩)
          go_ret
          exact ⟨retB HF.out.symm, HB.out⟩
end Go.Proofs.YtgkjakoagdkpcaaGreatDoor
