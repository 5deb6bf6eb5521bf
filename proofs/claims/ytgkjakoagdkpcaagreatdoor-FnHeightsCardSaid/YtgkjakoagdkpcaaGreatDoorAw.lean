
/- spec.anyImage, the walk. No condition. -/
import Derived.Test.YtgkjakoagdkpcaaGreatDoorRo
import Derived.Test.YtgkjakoagdkpcaaGreatDoorImP
set_option linter.unusedSimpArgs false
set_option linter.unusedVariables false
set_option maxRecDepth 100000
namespace Go.Proofs.YtgkjakoagdkpcaaGreatDoor
open Go.RowKit

theorem rows_at {W : World} {g q c i : Nat} {rl : List R3} (h : W.ownsRow (g + 1) 82 3 (.slice (some ⟨q, 0, none⟩) rl.length c) rl.length (rcells rl)) (hi : i < rl.length) : W.cell? ⟨q, i * 3 + 2, none⟩ = some (.int .i64 (rl[i]).p) ∧ W.frozen? ⟨q, i * 3 + 2, none⟩ = false ∧ q < W.heap.size := by
  obtain ⟨_, _, h2⟩ := rcells_get rl i hi
  have hp : ∀ i, ((⟨q, 0, none⟩ : Addr).add i) = ⟨q, i, none⟩ := fun i => by unfold Addr.add; split <;> simp_all
  have c2 := h.cells (g := q) rfl _ _ h2
  rw [hp] at c2
  exact ⟨c2, (own_ty h).frozen _, (own_ty h).lt⟩
theorem dwd (g : Nat) (W : World) : Dw g W W.drew := .of (Below.refl _ _).drew
section
variable {g q B r k : Nat} {P V : Int} {sv iv rv : Value} {W : World} {t : TypeId}
theorem CdA.far (H : CdA g q B P V sv iv rv W) (ht : Ty W r t) (hne : t ≠ 39) (k : Nat) (u : Value) : CdA g q B P V sv iv rv (W.setCell ⟨r, k, none⟩ u) := by
  have hqr : q ≠ r := fun e => by subst e; exact hne (ht.inj H.ty)
  have hb : (W.setCell ⟨r, k, none⟩ u).heap[q]? = W.heap[q]? := Below.heap_setCell _ _ _ _ (by exact hqr)
  have hcell : ∀ {i : Nat} {u' : Value}, W.cell? ⟨q, i, none⟩ = some u' → (W.setCell ⟨r, k, none⟩ u).cell? ⟨q, i, none⟩ = some u' := fun h => (World.cell?_of_block hb).trans h
  exact ⟨H.gt, H.ty.keep hb, hcell H.c0, hcell H.c1, hcell H.c2, hcell H.c3, hcell H.c4⟩
theorem CdA.h4 (H : CdA g q B P V sv iv rv W) : W.cell? ⟨q, B + 4, none⟩ = some rv ∧ q < W.heap.size := ⟨H.c4, H.ty.lt⟩
theorem CdA.h3 (H : CdA g q B P V sv iv rv W) : W.cell? ⟨q, B + 3, none⟩ = some iv ∧ q < W.heap.size := ⟨H.c3, H.ty.lt⟩
end
set_option maxHeartbeats 12800000 in
theorem cur_anyImage (g : Nat) (A : Option Addr) (c : Nat) (zs : List Int) (K : Nat) (w : World) (hc : Cur g A c zs K w) (hw : w.heap.size = g + 1) (hK : K ≤ 70000000000000000) :
    Calls Tryz.prog 34 #[.pointer (some ⟨g, 0, none⟩)] w (AnyIP g A c zs K w) := by
  have hgl := hc.lt
  have Hc := hide (hc.below ((Below.refl w.heap.size w).alloc (Nat.le_refl _) (.cells #[.slice none 0 0] 26)))
  have Hr := hide (Bk.new w 26 #[.slice none 0 0])
  have Hd := hide ((Dw.refl g w).alloc (.cells #[.slice none 0 0] 26))
  have Hw := hide hw
  clear hc hw
  go_enter Tryz.func34, Tryz.ntmps34
  go_upto_region 2 with (go_at_call 67; go_must (refine (cur_image g A c zs _ _ Hc.out (by omega)).mono ?_); rintro e w1 ⟨pA, pc, n, rfl, ⟨hn1, hn5⟩, hi, hc1, hd1⟩; have HI := hide (hi.dw ((Dw.refl g w1).alloc (.cells #[.slice pA n pc] 26))); have HS := hide (show AiS 4 g A c zs w (K + 200002) w1.heap.size (.slice pA n pc) n (w1.alloc (.cells #[.slice pA n pc] 26)) from ⟨hc1.below ((Below.refl _ _).alloc (Nat.le_refl _) _), (Hd.out.trans hd1).alloc _, Hw.out, (hd1.bk Hr.out (by omega)).alloc _, Bk.new _ _ _, (hd1.bk Hr.out (by omega)).lt, ((hi.shape hn5).dw ((Dw.refl g w1).alloc _) (Nat.lt_succ_self g))⟩); clear hi hc1 hd1)
  obtain ⟨q, rfl, hgq, hql, hpc⟩ := HI.out.firstI hn1
  have p0 := HS.out.p.cell 0; have pl := HS.out.p.lt
  generalize hh : w1.heap.size = h at *
  generalize w1.alloc (.cells #[.slice (some ⟨q, 0, none⟩) n pc] 26) = W1 at *
  clear hql hh
  go_region_held3 (fun w' => w'.cell? ⟨h, 0, none⟩ = some (.slice (some ⟨q, 0, none⟩) n pc) ∧ h < w'.heap.size) (first | exact ⟨p0, pl⟩ | exact ⟨p2, pl2⟩)
    (first
      | (go_at_call 44; go_must (refine (cur_pick g A c zs (K + 200002) _ _ (by first | with_reducible exact HS.out.cur | with_reducible exact HS.out.drw.cur) (by omega) (by omega)).mono ?_); rintro e w2 ⟨x, rfl, hx, hc1, hd1⟩; obtain ⟨x, rfl, hxn⟩ := pick_nat hx (show 0 < n from hn1); have hd1 := (by first | with_reducible exact hd1 | with_reducible exact dw_drew hd1 : Dw g W1 w2); have HS2 := hide (HS.out.step hc1 hd1); have HI2 := hide (HI.out.dw hd1); have p2 := HS2.out.p.cell 0; have pl2 := HS2.out.p.lt; have hxI : (x : Int) < (n : Int) := Int.ofNat_lt.2 hxn; have hxI0 : (0 : Int) ≤ (x : Int) := Int.natCast_nonneg x; clear hc1 hd1 hx))
  obtain ⟨P, V, sA, sc, sl, qi, jc, il, rA, rc, rl, hcd, hs4, ⟨hil1, hil2⟩, hrl, o1, o2, o3⟩ := HI2.out.fn hxn
  have HC := hide hcd; have HO := hide o1; have HN := hide o2; have HW := hide o3
  have f3 := hcd.c3; have fl := hcd.ty.lt
  have hjc : il.length ≤ jc := by obtain ⟨_, _, e, h1, _⟩ := Rd.of_own o2; cases e; exact h1
  have hrc : rl.length ≤ rc := by obtain ⟨_, _, e, h1, _⟩ := Rd.of_own o3; cases e; exact h1
  clear hcd o1 o2 o3 p0 pl p2 pl2 HI HI2
  go_upto_region 3 with fail
  go_region_held3 (fun w' => w'.cell? ⟨q, x * 5 + 3, none⟩ = some (.slice (some ⟨qi, 0, none⟩) il.length jc) ∧ q < w'.heap.size) (first | exact ⟨f3, fl⟩ | exact ⟨f33, fl3⟩)
    (first
      | (go_at_call 44; go_must (refine (cur_pick g A c zs (K + 200002 + 2) _ _ (by first | with_reducible exact HS2.out.cur | with_reducible exact HS2.out.drw.cur) (by omega) (by omega)).mono ?_); rintro e w3 ⟨y, rfl, hy, hc1, hd1⟩; obtain ⟨y, rfl, hyn⟩ := pick_nat hy (show 0 < il.length from hil1); have hd1 := (by first | with_reducible exact hd1 | with_reducible exact dw_drew hd1 : Dw g w2 w3); have HS3 := hide (HS2.out.step hc1 hd1); have HC3 := hide (HC.out.dw hd1); have HO3 := hide (hd1.own HO.out (Nat.lt_succ_self g)); have HN3 := hide (hd1.own HN.out (Nat.lt_succ_self g)); have HW3 := hide (hd1.own HW.out (Nat.lt_succ_self g)); have f33 := HC3.out.c3; have fl3 := HC3.out.ty.lt; have hyI : (y : Int) < (il.length : Int) := Int.ofNat_lt.2 hyn; have hyI0 : (0 : Int) ≤ (y : Int) := Int.natCast_nonneg y; clear hc1 hd1 hy))
  have HJ3 := hide (ins_at HN3.out hyn)
  generalize (il[y]).o = io at *
  generalize (il[y]).n = in_ at *
  clear HC HO HN HW f3 fl f33 fl3 HS2
  go_upto_block 0 with (go_at_call 44; go_must (refine (cur_pick g A c zs (K + 200002 + 2 + 2) _ _ HS3.out.cur (by omega) (by omega)).mono ?_); rintro e w4 ⟨z4, rfl, hz4, hc1, hd1⟩; have HS4 := hide (HS3.out.step hc1 hd1); have HC4 := hide (HC3.out.dw hd1); have HO4 := hide (hd1.own HO3.out (Nat.lt_succ_self g)); have HN4 := hide (hd1.own HN3.out (Nat.lt_succ_self g)); have HW4 := hide (hd1.own HW3.out (Nat.lt_succ_self g)); have HJ4 := hide (HJ3.out.dw hd1); clear hc1 hd1 hz4)
  clear HS3 HC3 HO3 HN3 HW3 HJ3
  go_cut [] (fun wx => AiS 5 g A c zs w (K + 200020) h (.slice (some ⟨q, 0, none⟩) n pc) n wx)
  case first =>
    by_cases h0 : z4 = 0
    · subst h0
      go_wp2_with (go_at_call 44; go_must (refine (cur_pick g A c zs (K + 200002 + 2 + 2 + 2) _ _ HS4.out.cur (by omega) (by omega)).mono ?_); rintro e w5 ⟨z5, rfl, hz5, hc1, hd1⟩; have HS5 := hide (HS4.out.step hc1 hd1); have HJ5 := hide (HJ4.out.dw hd1); have t0 := HJ5.out.c1; have tf := HJ5.out.ty.frozen (y * 2 + 1); have tl := HJ5.out.ty.lt; clear hc1 hd1 hz5)
      go_meet
      exact (HS5.out.setN HJ5.out.ty HJ5.out.gt (y * 2 + 1) _).more (by omega) (by omega)
    by_cases h1 : z4 = 1
    · subst h1
      go_wp2_with (go_at_call 44; go_must (refine (cur_pick g A c zs (K + 200002 + 2 + 2 + 2) _ _ HS4.out.cur (by omega) (by omega)).mono ?_); rintro e w5 ⟨z5, rfl, hz5, hc1, hd1⟩; have HS5 := hide (HS4.out.step hc1 hd1); have HJ5 := hide (HJ4.out.dw hd1); have t0 := HJ5.out.c0; have tf := HJ5.out.ty.frozen (y * 2); have tl := HJ5.out.ty.lt; clear hc1 hd1 hz5)
      go_meet
      exact (HS5.out.setN HJ5.out.ty HJ5.out.gt (y * 2) _).more (by omega) (by omega)
    by_cases h2 : z4 = 2
    · subst h2
      go_wp2_with (go_at_call 44; go_must (refine (cur_pick g A c zs (K + 200002 + 2 + 2 + 2) _ _ HS4.out.cur (by omega) (by omega)).mono ?_); rintro e w5 ⟨z5, rfl, hz5, hc1, hd1⟩; have HS5 := hide (HS4.out.step hc1 hd1); have HC5 := hide (HC4.out.dw hd1); have t0 := HC5.out.c1; have tf := HC5.out.ty.frozen (x * 5 + 1); have tl := HC5.out.ty.lt; clear hc1 hd1 hz5)
      go_meet
      exact (HS5.out.setC HC5.out.ty HC5.out.gt (x * 5 + 1) (.int _ (by omega))).more (by omega) (by omega)
    by_cases h3 : z4 = 3
    · subst h3
      have t2 := HC4.out.c2; have tl := HC4.out.ty.lt
      go_wp2_with fail
      go_region_law ((first
          | (refine step_pushC rfl 63 rfl (.tmp 58) (.tmp 62) 29 rfl okI64 (by simp [Act.eval, Act.put]) HO5.out _ (by simp [Act.eval, Act.put]) hb5 (by simp [Value.oneCell']) (by unfold maxLen; omega) (by omega) hg5 ?_; intro v9 w9 hown9 hc9; obtain ⟨tA9, tc9, rfl⟩ := own_form hown9; have HS6 := hide (HS5.out.pushI hc9); have HC6 := hide (HC5.out.pushI hc9); have HO6 := hide hown9; have t26 := HC6.out.c2; have tl6 := HC6.out.ty.lt; have tf6 := HC6.out.ty.frozen (x * 5 + 2); clear hown9 hc9)
          | (go_simp; go_wp2_with (go_at_call 44; go_must (refine (cur_pick g A c zs (K + 200002 + 2 + 2 + 2) _ _ (by first | with_reducible exact HS4.out.cur | with_reducible exact HS4.out.drw.cur) (by omega) (by omega)).mono ?_); rintro e w5 ⟨z5, rfl, hz5, hc1, hd1⟩; have hd1 := (by first | with_reducible exact hd1 | with_reducible exact dw_drew hd1 : Dw g w4 w5); have HS5 := hide ((HS4.out.step hc1 hd1).alloc (.cells #[.int .i64 (IntKind.i64.wrap (z5 - 1))] 3)); have HC5 := hide ((HC4.out.dw hd1).dw ((Dw.refl g w5).alloc (.cells #[.int .i64 (IntKind.i64.wrap (z5 - 1))] 3))); have HO5 := hide ((hd1.own HO4.out (Nat.lt_succ_self g)).alloc (.cells #[.int .i64 (IntKind.i64.wrap (z5 - 1))] 3)); have hb5 := (Bk.new w5 3 #[.int .i64 (IntKind.i64.wrap (z5 - 1))]).cell 0; have hg5 : g + 1 ≤ (w5.alloc (.cells #[.int .i64 (IntKind.i64.wrap (z5 - 1))] 3)).heap.size := HS5.out.cur.lt; have t25 := (HC4.out.dw hd1).c2; have tl5 := (HC4.out.dw hd1).ty.lt; clear hc1 hd1 hz5))))
      all_goals
        go_wp2_with fail
        go_meet
        exact (HS6.out.more (by omega) (by omega)).setC HC6.out.ty HC6.out.gt (x * 5 + 2) ⟨fun e => by omega, fun _ => ⟨sl ++ [IntKind.i64.wrap (z5 - 1)], by simp; omega, by rw [List.length_append, icells_append]; exact HO6.out⟩, fun e => by omega, fun e => by omega⟩
    by_cases h4 : z4 = 4
    · subst h4
      have t4 := HC4.out.c4; have tl := HC4.out.ty.lt
      by_cases hR : 0 < rl.length
      · have hRI : (0 : Int) < (rl.length : Int) := by omega
        obtain ⟨qr, c', e⟩ := own_some HW4.out hR
        cases e
        go_upto_region 15 with fail
        have HSx := hide HS4.out.drw; have HCx := hide (HC4.out.dw (dwd g w4)); have HWx := hide ((dwd g w4).own HW4.out (Nat.lt_succ_self g))
        clear HS4 HC4 HW4 HO4 HN4 HJ4 t4 tl
        go_region_held3 (fun w' => w'.cell? ⟨q, x * 5 + 4, none⟩ = some (.slice (some ⟨qr, 0, none⟩) rl.length rc) ∧ q < w'.heap.size)
          (first | with_reducible exact HCx.out.h4 | with_reducible exact (HCx.out.far (own_ty HWx.out) (by decide) _ _).h4)
          (first
            | (go_at_call_of 44 (Value.int .i64 12); go_must (refine (cur_pick g A c zs _ _ _ HSx.out.cur (by omega) (by omega)).mono ?_); rintro e w5 ⟨z5, rfl, hz5, hc1, hd1⟩; have HSx := hide (HSx.out.step hc1 hd1); have HCx := hide (HCx.out.dw hd1); have HWx := hide (hd1.own HWx.out (Nat.lt_succ_self g)); (try have r1 := (rows_at HWx.out hi).1); (try have r2 := (rows_at HWx.out hi).2.1); (try have r3 := (rows_at HWx.out hi).2.2); clear hc1 hd1 hz5)
            | (go_at_call 44; go_must (refine (cur_pick g A c zs _ _ _ HSx.out.cur (by omega) (by omega)).mono ?_); rintro e w6 ⟨i, rfl, hx, hc1, hd1⟩; obtain ⟨i, rfl, hi⟩ := pick_nat hx hR; have HSx := hide (HSx.out.step hc1 hd1); have HCx := hide (HCx.out.dw hd1); have HWx := hide (hd1.own HWx.out (Nat.lt_succ_self g)); have r1 := (rows_at HWx.out hi).1; have r2 := (rows_at HWx.out hi).2.1; have r3 := (rows_at HWx.out hi).2.2; have hiI : (i : Int) < (rl.length : Int) := Int.ofNat_lt.2 hi; have hiI0 : (0 : Int) ≤ (i : Int) := Int.natCast_nonneg i; clear hc1 hd1 hx))
        all_goals
          go_wp2_with fail
          go_meet
          exact (HSx.out.setR (own_ty HWx.out) (HWx.out.lt qr rfl).1 (i * 3 + 2) _).more (by omega) (by omega)
      · have hRI : ¬ (0 : Int) < (rl.length : Int) := by omega
        go_wp2_with fail
        go_meet
        exact HS4.out.more (by omega) (by omega)
    by_cases h5 : z4 = 5
    · subst h5
      have hn1 : IntKind.i64.wrap ((rl.length : Int) + 1) = (rl.length : Int) + 1 := IntWalk.i64_in _ (by omega)
      have t4 := HC4.out.c4; have tl := HC4.out.ty.lt
      go_upto_region 17 with fail
      go_region_with ((go_at_call 44; go_must (refine (cur_pick g A c zs (K + 200002 + 2 + 2 + 2) _ _ (by first | with_reducible exact HS4.out.cur | with_reducible exact HS4.out.drw.cur) (by omega) (by omega)).mono ?_); rintro e w6 ⟨i, rfl, hx, hc1, hd1⟩; obtain ⟨i, rfl, hi⟩ := pick_nat (n := rl.length + 1) hx (by omega); have hd1 := (by first | with_reducible exact hd1 | with_reducible exact dw_drew hd1 : Dw g w4 w6); have HSx := hide (HS4.out.step hc1 hd1); have HCx := hide (HC4.out.dw hd1); have HWx := hide (hd1.own HW4.out (Nat.lt_succ_self g)); have r1 := HCx.out.c4; have r2 := HCx.out.ty.frozen (x * 5 + 4); have r3 := HCx.out.ty.lt; have hiI : (i : Int) ≤ (rl.length : Int) := Int.ofNat_le.2 (Nat.le_of_lt_succ hi); have hiC : (i : Int) ≤ (rc : Int) := (by omega); have hiI0 : (0 : Int) ≤ (i : Int) := Int.natCast_nonneg i; clear hc1 hd1 hx))
      all_goals
        go_wp2_with fail
        go_meet
        exact (HSx.out.setC HCx.out.ty HCx.out.gt (x * 5 + 4) ⟨fun e => by omega, fun e => by omega, fun e => by omega, fun _ => ⟨i, (SlR.of_own HWx.out hrl fun j y hy => rcells_isI _ y (List.mem_of_getElem? hy)).take (by omega)⟩⟩).more (by omega) (by omega)
    by_cases h6 : z4 = 6
    · subst h6
      have hI1 : 0 < il.length := hil1
      have t4 := HC4.out.c3; have tl := HC4.out.ty.lt
      go_upto_region 19 with fail
      go_region_with ((go_at_call 44; go_must (refine (cur_pick g A c zs (K + 200002 + 2 + 2 + 2) _ _ (by first | with_reducible exact HS4.out.cur | with_reducible exact HS4.out.drw.cur) (by omega) (by omega)).mono ?_); rintro e w6 ⟨i, rfl, hx, hc1, hd1⟩; obtain ⟨i, rfl, hi⟩ := pick_nat hx hI1; have hd1 := (by first | with_reducible exact hd1 | with_reducible exact dw_drew hd1 : Dw g w4 w6); have HSx := hide (HS4.out.step hc1 hd1); have HCx := hide (HC4.out.dw hd1); have HNx := hide (hd1.own HN4.out (Nat.lt_succ_self g)); have r1 := HCx.out.c3; have r2 := HCx.out.ty.frozen (x * 5 + 3); have r3 := HCx.out.ty.lt; have hw6 : IntKind.i64.wrap (1 + (i : Int)) = 1 + (i : Int) := IntWalk.i64_in _ (by omega); have ht6 : (1 + (i : Int)).toNat = 1 + i := (by omega); have hiI : 1 + (i : Int) ≤ (il.length : Int) := (by omega); have hiC : 1 + (i : Int) ≤ (jc : Int) := (by omega); have hiI0 : (0 : Int) ≤ 1 + (i : Int) := (by omega); clear hc1 hd1 hx))
      all_goals
        clear hw6 ht6
        go_wp2_with fail
        go_meet
        exact (HSx.out.setC HCx.out.ty HCx.out.gt (x * 5 + 3) ⟨fun e => by omega, fun e => by omega, fun _ => ⟨1 + i, by omega, (SlR.of_own HNx.out hil2 fun j y hy => pcells_isI _ y (List.mem_of_getElem? hy)).take (by omega)⟩, fun e => by omega⟩).more (by omega) (by omega)
    by_cases h7 : z4 = 7
    · subst h7
      go_wp2_with (go_at_call 38; go_must (refine (cur_amL HS4.out.cur (by omega) [18, 9, 5, 16] (by simp) (by simp)).mono ?_); rintro e w5 ⟨z5, rfl, _, hc1, hd1⟩; have HS5 := hide ((HS4.out.alloc _).step hc1 hd1); have HJ5 := hide ((HJ4.out.dw ((Dw.refl g _).alloc _)).dw hd1); have t0 := HJ5.out.c0; have t1 := HJ5.out.c1; have tf0 := HJ5.out.ty.frozen (y * 2); have tf1 := HJ5.out.ty.frozen (y * 2 + 1); have tl := HJ5.out.ty.lt; clear hc1 hd1)
      go_meet
      exact ((HS5.out.setN HJ5.out.ty HJ5.out.gt (y * 2) _).setN (Chg.set HJ5.out.ty _ _).ty' HJ5.out.gt (y * 2 + 1) _).more (by omega) (by omega)
    · go_wp2_with fail
      go_meet
      exact HS4.out.more (by omega) (by omega)
  case rest =>
    have HS := hide hcut
    have r0 := hcut.res.cell 0; have ry := hcut.res.frozen 0; have rl := hcut.res.lt
    have p0 := hcut.p.cell 0; have pl := hcut.p.lt
    clear hcut
    go_wp2_with fail
    refine bodyPost_ret (v := .agg #[.slice (some ⟨q, 0, none⟩) n pc]) ?_ rfl (HS.out.done ⟨hn1, hn5⟩)
    simp [results, Tryz.results34, go_sem, r0, rl]; done
end Go.Proofs.YtgkjakoagdkpcaaGreatDoor
set_option linter.unusedSimpArgs false
set_option linter.unusedVariables false
set_option maxRecDepth 100000
namespace Go.Proofs.YtgkjakoagdkpcaaGreatDoor
open Go.RowKit

/-- the state: the image is of the shape, h: where it is kept; t, rs: the result's cell -/
structure DiS (g : Nat) (A : Option Addr) (c : Nat) (zs : List Int) (w : World) (K h : Nat) (pv : Value) (n : Nat) (t : TypeId) (rs : Array Value) (W : World) : Prop where
  cur : Cur g A c zs K W
  b : Below w.heap.size w W
  hg : g = w.heap.size + 1
  res : Bk W w.heap.size t rs
  p : Bk W h 26 #[pv]
  lt : g < h
  sh : ImS 5 (g + 1) W pv n
def DiH (w : World) (h : Nat) (pv : Value) (W : World) : Prop := W.cell? ⟨h, 0, none⟩ = some pv ∧ h < W.heap.size ∧ W.frozen? ⟨w.heap.size, 0, none⟩ = false ∧ w.heap.size < W.heap.size
section
variable {g : Nat} {A : Option Addr} {c : Nat} {zs : List Int} {w : World} {K K' h n : Nat} {pv u : Value} {t : TypeId} {rs : Array Value} {W W' : World}
theorem DiS.step (H : DiS g A c zs w K h pv n t rs W) (hc : Cur g A c zs K' W') (hd : Dw g W W') : DiS g A c zs w K' h pv n t rs W' := by
  have := H.lt; have := H.hg; have := H.b.size
  exact ⟨hc, H.b.trans (hd.below (by omega) (by omega)), H.hg, hd.bk H.res (by omega), hd.bk H.p (by omega), H.lt, H.sh.dw hd (Nat.lt_succ_self _)⟩
theorem DiS.drw (H : DiS g A c zs w K h pv n t rs W) : DiS g A c zs w K h pv n t rs W.drew := H.step (H.cur.below (Below.refl _ _).drew) (.of (Below.refl _ _).drew)
theorem DiS.hold (H : DiS g A c zs w K h pv n t rs W) : DiH w h pv W := ⟨H.p.cell 0, H.p.lt, H.res.frozen 0, H.res.lt⟩
theorem DiS.hold2 (H : DiS g A c zs w K h pv n t rs W) (i : Nat) (u : Value) : DiH w h pv (W.setCell ⟨w.heap.size, i, none⟩ u) := by
  have := H.lt; have := H.hg
  exact ⟨(H.p.far (by omega) _ _).cell 0, (H.p.far (by omega) i u).lt, (H.res.set i u).frozen 0, (H.res.set i u).lt⟩
theorem DiS.hold4 (H : DiS g A c zs w K h pv n t rs W) (a0 a1 a2 a3 : Value) : DiH w h pv ((((W.setCell ⟨w.heap.size, 0, none⟩ a0).setCell ⟨w.heap.size, 1, none⟩ a1).setCell ⟨w.heap.size, 2, none⟩ a2).setCell ⟨w.heap.size, 3, none⟩ a3) := by
  have := H.lt; have := H.hg
  have hp := (((H.p.far (show h ≠ w.heap.size by omega) 0 a0).far (show h ≠ w.heap.size by omega) 1 a1).far (show h ≠ w.heap.size by omega) 2 a2).far (show h ≠ w.heap.size by omega) 3 a3
  have hr := (((H.res.set 0 a0).set 1 a1).set 2 a2).set 3 a3
  exact ⟨hp.cell 0, hp.lt, hr.frozen 0, hr.lt⟩
theorem DiS.imgR {pA : Option Addr} {pc : Nat} (H : DiS g A c zs w K h (.slice pA n pc) n t rs W) (i : Nat) (u : Value) : ∃ fs : List CodeM, fs.length = n ∧ RL RCode 5 (W.setCell ⟨w.heap.size, i, none⟩ u) w.heap.size (W.setCell ⟨w.heap.size, i, none⟩ u).heap.size (.slice pA n pc) fs ∧ szCodesN fs ≤ 1500 := by
  obtain ⟨fs, hl, hr, hz⟩ := (H.sh.dw ((Dw.refl w.heap.size W).set i u) (by have := H.hg; omega)).r (by omega)
  exact ⟨fs, hl, hr.more RCode_stable (by have := H.hg; omega) (Nat.le_refl _), hz⟩
theorem DiS.img {pA : Option Addr} {pc : Nat} (H : DiS g A c zs w K h (.slice pA n pc) n t rs W) : ∃ fs : List CodeM, fs.length = n ∧ RL RCode 5 W w.heap.size W.heap.size (.slice pA n pc) fs ∧ szCodesN fs ≤ 1500 := by
  obtain ⟨fs, hl, hr, hz⟩ := H.sh.r (by omega)
  exact ⟨fs, hl, hr.more RCode_stable (by have := H.hg; omega) (Nat.le_refl _), hz⟩
end
def DGoodCodeP (w : World) (e : Ending) (w' : World) : Prop := ∃ (pA : Option Addr) (pc : Nat) (fs : List CodeM) (fn : Int), e = .returned (.tuple #[.agg #[.slice pA fs.length pc], .int .i64 fn]) ∧ RL RCode 5 w' w.heap.size w'.heap.size (.slice pA fs.length pc) fs ∧ szCodesN fs ≤ 1500 ∧ Below w.heap.size w w'
set_option maxHeartbeats 3200000 in
theorem spec_DrawGoodCode (v : Value) (zs : List Int) (w : World) (hr : Rd w w.heap.size v zs.length (icells .u8 zs)) (hz : ∀ z ∈ zs, 0 ≤ z ∧ z ≤ 255) :
    Calls Tryz.prog 22 #[v] w (DGoodCodeP w) := by
  obtain ⟨A, c, rfl, _⟩ := id hr
  obtain ⟨h1, h2, h3, h4⟩ := dc_start (t := 26) (rs := #[.slice none 0 0]) hr hz
  have H1 := hide h1; have H2 := hide h2; have H3 := hide h3; have H4 := hide h4
  clear hr h1 h2 h3 h4
  go_enter Tryz.func22, Tryz.ntmps22
  go_upto_region 3 with (go_at_call 34; go_must (refine (cur_anyImage (w.heap.size + 1) A c zs 0 _ H1.out H4.out (by omega)).mono ?_); rintro e w1 ⟨pA, pc, n, rfl, ⟨hn1, hn5⟩, hp, hc1, hd1⟩; have hlt : w.heap.size + 1 < w1.heap.size := hc1.lt; have HS := hide (show DiS (w.heap.size + 1) A c zs w 200020 w1.heap.size (.slice pA n pc) n 26 #[.slice none 0 0] (w1.alloc (.cells #[.slice pA n pc] 26)) from ⟨(hc1.more (by omega)).below ((Below.refl _ _).alloc (Nat.le_refl _) _), (H3.out.trans (hd1.below (by omega) (by have := H4.out; omega))).alloc (by omega) _, rfl, (hd1.bk H2.out (by omega)).alloc _, Bk.new _ _ _, hlt, hp.dw ((Dw.refl (w.heap.size + 1) w1).alloc _) (Nat.lt_succ_self _)⟩); clear hp hc1 hd1)
  have p0 := HS.out.p.cell 0; have pl := HS.out.p.lt; have r0 := HS.out.res.frozen 0; have rl := HS.out.res.lt
  have hnI : IntKind.i64.wrap ((n : Int) + 1) = (n : Int) + 1 := IntWalk.i64_in _ (by omega)
  generalize hh : w1.heap.size = h at *
  generalize w1.alloc (.cells #[.slice pA n pc] 26) = W1 at *
  have Hq := Lib.hid (show ∀ x : Int, True from fun _ => trivial)
  go_region_held3 (fun w' => w'.cell? ⟨h, 0, none⟩ = some (.slice pA n pc) ∧ h < w'.heap.size ∧ w'.frozen? ⟨w.heap.size, 0, none⟩ = false ∧ w.heap.size < w'.heap.size)
    (first | exact HS.out.hold | exact HS2.out.hold | exact HS3.out.hold | exact HS3.out.hold2 _ _)
    (first
      | (go_at_call_of 44 (Value.int .i64 20); go_must (refine (cur_pick (w.heap.size + 1) A c zs (200020 + 2) _ _ HS2.out.cur (by omega) (by omega)).mono ?_); rintro e w3 ⟨x3, rfl, ⟨hx3, hx4⟩, hc1, hd1⟩; have hx4 := hx4 (by omega); have HS3 := hide (HS2.out.step hc1 hd1); have r3 := HS3.out.res.cell 0; have rf3 := HS3.out.res.frozen 0; have rl3 := HS3.out.res.lt; clear hc1 hd1)
      | (go_at_call 44; go_must (refine (cur_pick (w.heap.size + 1) A c zs 200020 _ _ (by first | with_reducible exact HS.out.cur | with_reducible exact HS.out.drw.cur) (by omega) (by omega)).mono ?_); rintro e w2 ⟨x2, rfl, hx2, hc1, hd1⟩; have hd1 := (by first | with_reducible exact hd1 | with_reducible exact dw_drew hd1 : Dw (w.heap.size + 1) W1 w2); have HS2 := hide (HS.out.step hc1 hd1); clear hc1 hd1))
  all_goals
    have r4 := (HS3.out.res.set 0 (.slice pA n pc)).cell 0; have rl4 := (HS3.out.res.set 0 (.slice pA n pc)).lt
    obtain ⟨fs, rfl, hr, hz⟩ := HS3.out.imgR 0 (.slice pA n pc)
    have Hr := hide hr; have Hb := hide (HS3.out.b.setCell (p := ⟨w.heap.size, 0, none⟩) (Nat.le_refl _) (.slice pA fs.length pc))
    clear hr
    go_wp2_with fail
    refine bodyPost_ret (v := .tuple #[.agg #[.slice pA fs.length pc], .int .i64 (IntKind.i64.wrap (x2 - IntKind.i64.wrap (x3.tdiv 19)))]) ?_ rfl ⟨pA, pc, fs, _, rfl, Hr.out, hz, Hb.out⟩
    simp [results, Tryz.results22, go_sem, r3, rl3]; done
set_option maxHeartbeats 1600000 in
theorem spec_DrawHeightsOf (v : Value) (zs : List Int) (w : World) (hr : Rd w w.heap.size v zs.length (icells .u8 zs)) (hz : ∀ z ∈ zs, 0 ≤ z ∧ z ≤ 255) :
    Calls Tryz.prog 5 #[v] w (DGoodCodeP w) := by
  have hb0 := (Below.refl w.heap.size w).alloc (Nat.le_refl _) (.cells #[.slice none 0 0] 26)
  have HD := hide (spec_DrawGoodCode v zs _ (hr.here ((Below.refl w.heap.size w).alloc (Nat.le_refl _) (.cells #[.slice none 0 0] 26))) hz)
  have Hk := hide (Bk.new w 26 #[.slice none 0 0])
  obtain ⟨A, c, rfl, _⟩ := id hr
  have Hb0 := hide hb0
  clear hr hb0
  go_enter Tryz.func5, Tryz.ntmps5
  go_wp2_with (go_at_call 22; refine HD.out.mono ?_; rintro e w1 ⟨rA, rc, fs, fn, rfl, hrl, hz, hb⟩; have Hr := hide hrl; have Hb := hide (Hb0.out.trans (hb.mono Hb0.out.size)); have hk := Hk.out.below hb; have r0 := hk.cell 0; have rf := hk.frozen 0; have rl := hk.lt; clear hrl hb hk)
  have hP : DGoodCodeP w (.returned (.tuple #[.agg #[.slice rA fs.length rc], .int .i64 fn])) (w1.setCell ⟨w.heap.size, 0, none⟩ (.slice rA fs.length rc)) := by
    have hr := Hr.out
    rw [World.size_alloc] at hr
    refine ⟨rA, rc, fs, fn, rfl, ?_, hz, Hb.out.setCell (p := ⟨w.heap.size, 0, none⟩) (Nat.le_refl _) _⟩
    rw [World.size_setCell]
    exact (hr.keep RCode_stable ((KeptB.refl _ _ _).setr (by exact Nat.lt_succ_self _))).more RCode_stable (Nat.le_succ _) (Nat.le_refl _)
  refine bodyPost_ret (v := .tuple #[.agg #[.slice rA fs.length rc], .int .i64 fn]) ?_ rfl hP
  simp [results, Tryz.results5, go_sem, r0, rl]; done
/-- an instruction under way -/
structure InsS (g : Nat) (A : Option Addr) (c : Nat) (zs : List Int) (w : World) (K h : Nat) (o n : Int) (W : World) : Prop where
  cur : Cur g A c zs K W
  dw : Dw g w W
  hg : g < w.heap.size
  res : Bk W w.heap.size 41 #[.int .i64 0, .int .i64 0]
  p : Bk W h 41 #[.int .i64 o, .int .i64 n]
  lt : w.heap.size < h
section
variable {g : Nat} {A : Option Addr} {c : Nat} {zs : List Int} {w : World} {K K' h : Nat} {o n : Int} {W W' : World}
theorem InsS.step (H : InsS g A c zs w K h o n W) (hc : Cur g A c zs K' W') (hd : Dw g W W') : InsS g A c zs w K' h o n W' := by
  have := H.hg; have := H.lt
  exact ⟨hc, H.dw.trans hd, H.hg, hd.bk H.res (by omega), hd.bk H.p (by omega), H.lt⟩
theorem InsS.alloc (H : InsS g A c zs w K h o n W) (o' : Obj) : InsS g A c zs w K h o n (W.alloc o') := H.step (H.cur.below ((Below.refl _ _).alloc (Nat.le_refl _) o')) ((Dw.refl g W).alloc o')
theorem InsS.more (H : InsS g A c zs w K h o n W) (hK : K ≤ K') : InsS g A c zs w K' h o n W := ⟨H.cur.more hK, H.dw, H.hg, H.res, H.p, H.lt⟩
theorem InsS.put (H : InsS g A c zs w K h o n W) (z : Int) : InsS g A c zs w K h o z (W.setCell ⟨h, 1, none⟩ (.int .i64 z)) := by
  have h1 := H.hg; have h2 := H.lt
  have hb : Below w.heap.size W (W.setCell ⟨h, 1, none⟩ (.int .i64 z)) := (Below.refl _ _).setCell (p := ⟨h, 1, none⟩) (by show w.heap.size ≤ h; omega) _
  exact ⟨H.cur.keepG2 hb h1, H.dw.belowW hb (Nat.le_refl _), h1, H.res.far (by omega) _ _, H.p.set 1 _, h2⟩
theorem InsS.done (H : InsS g A c zs w K h o n W) : Cur g A c zs K ((W.setCell ⟨w.heap.size, 0, none⟩ (.int .i64 o)).setCell ⟨w.heap.size, 1, none⟩ (.int .i64 n)) ∧ Dw g w ((W.setCell ⟨w.heap.size, 0, none⟩ (.int .i64 o)).setCell ⟨w.heap.size, 1, none⟩ (.int .i64 n)) := by
  have hb : Below w.heap.size W ((W.setCell ⟨w.heap.size, 0, none⟩ (.int .i64 o)).setCell ⟨w.heap.size, 1, none⟩ (.int .i64 n)) := ((Below.refl _ _).setCell (p := ⟨w.heap.size, 0, none⟩) (Nat.le_refl _) _).setCell (p := ⟨w.heap.size, 1, none⟩) (Nat.le_refl _) _
  exact ⟨H.cur.keepG2 hb H.hg, H.dw.belowW hb (Nat.le_refl _)⟩
end
def InsDP (g : Nat) (A : Option Addr) (c : Nat) (zs : List Int) (K : Nat) (w : World) (e : Ending) (w' : World) : Prop := ∃ o n : Int, e = .returned (.agg #[.int .i64 o, .int .i64 n]) ∧ Cur g A c zs (K + 20) w' ∧ Dw g w w'
set_option maxHeartbeats 3200000 in
theorem cur_ins (g : Nat) (A : Option Addr) (c : Nat) (zs : List Int) (K : Nat) (w : World) (hc : Cur g A c zs K w) (hK : K ≤ 80000000000000000) :
    Calls Tryz.prog 35 #[.pointer (some ⟨g, 0, none⟩)] w (InsDP g A c zs K w) := by
  have hgl := hc.lt
  have Hc := hide (hc.below ((Below.refl w.heap.size w).alloc (Nat.le_refl _) (.cells #[.int .i64 0, .int .i64 0] 41)))
  have Hr := hide (Bk.new w 41 #[.int .i64 0, .int .i64 0])
  have Hd := hide ((Dw.refl g w).alloc (.cells #[.int .i64 0, .int .i64 0] 41))
  clear hc
  go_enter Tryz.func35, Tryz.ntmps35
  go_upto_region 2 with (go_at_call 44; go_must (refine (cur_pick g A c zs K _ _ Hc.out (by omega) (by omega)).mono ?_); rintro e w1 ⟨o, rfl, ho, hc1, hd1⟩; have HS := hide (show InsS g A c zs w (K + 2) w1.heap.size o 0 (w1.alloc (.cells #[.int .i64 o, .int .i64 0] 41)) from ⟨hc1.below ((Below.refl _ _).alloc (Nat.le_refl _) _), (Hd.out.trans hd1).alloc _, hgl, (hd1.bk Hr.out (by omega)).alloc _, Bk.new _ _ _, (hd1.bk Hr.out (by omega)).lt⟩); clear hc1 hd1 ho)
  have i0 := HS.out.p.cell 0; have il := HS.out.p.lt
  generalize hh : w1.heap.size = h at *
  generalize w1.alloc (.cells #[.int .i64 o, .int .i64 0] 41) = W1 at *
  have hl5 := fun W => spec_l5HasN o W
  generalize hasNB o = bn at *
  have HL := Lib.hid hl5
  clear hl5 hh
  go_upto_if 9 with (go_at_call 41; refine (HL.out _).mono ?_; rintro e w2 ⟨rfl, rfl⟩)
  clear i0 il
  go_cut [] (fun wx => ∃ n : Int, InsS g A c zs w (K + 4) h o n wx)
  case first =>
    cases bn
    · go_wp2_with fail
      go_meet
      exact ⟨0, HS.out.more (by omega)⟩
    · go_wp2_with (go_at_call 38; go_must (refine (cur_amL HS.out.cur (by omega) [0, 1, 3, 4, 5, 8, 9, 200] (by simp) (by simp)).mono ?_); rintro e w3 ⟨z3, rfl, _, hc1, hd1⟩; have HS := hide ((HS.out.alloc _).step hc1 hd1); have i1 := HS.out.p.cell 1; have if1 := HS.out.p.frozen 1; have il := HS.out.p.lt; clear hc1 hd1)
      go_meet
      exact ⟨z3, (HS.out.put z3).more (by omega)⟩
  case rest =>
    obtain ⟨n, hs⟩ := hcut
    clear HS
    have HS := hide hs
    clear hs
    go_upto_if 15 with (go_at_call 68; go_must (refine (cur_one g A c zs _ _ _ HS.out.cur (by omega) (by omega)).mono ?_); rintro e w4 ⟨b4, rfl, hc1, hd1⟩; have HS := hide (HS.out.step hc1 hd1); clear hc1 hd1)
    go_cut [] (fun wx => ∃ n : Int, InsS g A c zs w (K + 10) h o n wx)
    case first =>
      cases b4
      · go_wp2_with fail
        go_meet
        exact ⟨n, HS.out.more (by omega)⟩
      · go_wp2_with (go_at_call 38; go_must (refine (cur_amL HS.out.cur (by omega) [-1, 1000000, 1000001] (by simp) (by simp)).mono ?_); rintro e w5 ⟨z5, rfl, _, hc1, hd1⟩; have HS := hide ((HS.out.alloc _).step hc1 hd1); have i1 := HS.out.p.cell 1; have if1 := HS.out.p.frozen 1; have il := HS.out.p.lt; clear hc1 hd1)
        go_meet
        exact ⟨z5, (HS.out.put z5).more (by omega)⟩
    case rest =>
      obtain ⟨n6, hs⟩ := hcut
      clear HS
      have HS := hide hs
      have i0 := hs.p.cell 0; have i1 := hs.p.cell 1; have il := hs.p.lt
      have r0 := hs.res.cell 0; have r1 := hs.res.cell 1; have f0 := hs.res.frozen 0; have f1 := hs.res.frozen 1; have rl := hs.res.lt
      clear hs
      go_wp2_with fail
      refine bodyPost_ret (v := .agg #[.int .i64 o, .int .i64 n6]) ?_ rfl ⟨o, n6, rfl, HS.out.done.1.more (by omega), HS.out.done.2⟩
      simp [results, Tryz.results35, go_sem, r0, r1, rl]; done
end Go.Proofs.YtgkjakoagdkpcaaGreatDoor
set_option linter.unusedSimpArgs false
set_option linter.unusedVariables false
set_option maxRecDepth 100000
namespace Go.Proofs.YtgkjakoagdkpcaaGreatDoor
open Go.RowKit

def DInsP (w : World) (e : Ending) (w' : World) : Prop := ∃ o n : Int, e = .returned (.agg #[.int .i64 o, .int .i64 n]) ∧ Below w.heap.size w w'
def DNextP (w : World) (e : Ending) (w' : World) : Prop := ∃ o n a : Int, e = .returned (.tuple #[.agg #[.int .i64 o, .int .i64 n], .int .i64 a]) ∧ Below w.heap.size w w'
def DTakesP (w : World) (e : Ending) (w' : World) : Prop := ∃ (pA : Option Addr) (pc : Nat) (fs : List CodeM) (o n : Int), e = .returned (.tuple #[.agg #[.slice pA fs.length pc], .agg #[.int .i64 o, .int .i64 n]]) ∧ RL RCode 5 w' 0 w'.heap.size (.slice pA fs.length pc) fs ∧ szCodesN fs ≤ 1500 ∧ Below w.heap.size w w'
set_option maxHeartbeats 1600000 in
theorem spec_DrawInsText (v : Value) (zs : List Int) (w : World) (hr : Rd w w.heap.size v zs.length (icells .u8 zs)) (hz : ∀ z ∈ zs, 0 ≤ z ∧ z ≤ 255) :
    Calls Tryz.prog 19 #[v] w (DInsP w) := by
  obtain ⟨A, c, rfl, _⟩ := id hr
  obtain ⟨h1, h2, h3, h4⟩ := dc_start (t := 41) (rs := #[.int .i64 0, .int .i64 0]) hr hz
  have H1 := hide h1; have H2 := hide h2; have H3 := hide h3; have H4 := hide h4
  clear hr h1 h2 h3 h4
  go_enter Tryz.func19, Tryz.ntmps19
  go_wp2_with (go_at_call 35; go_must (refine (cur_ins (w.heap.size + 1) A c zs 0 _ H1.out (by omega)).mono ?_); rintro e w1 ⟨o, n, rfl, hc1, hd1⟩; have hk := hd1.bk H2.out (by omega); have r0 := hk.cell 0; have r1 := hk.cell 1; have f0 := hk.frozen 0; have f1 := hk.frozen 1; have rl := hk.lt; have Hb := hide (H3.out.trans (hd1.below (by omega) (by have := H4.out; omega))); clear hk hc1 hd1)
  refine bodyPost_ret (v := .agg #[.int .i64 o, .int .i64 n]) ?_ rfl ⟨o, n, rfl, (Hb.out.setCell (p := ⟨w.heap.size, 0, none⟩) (Nat.le_refl _) _).setCell (p := ⟨w.heap.size, 1, none⟩) (Nat.le_refl _) _⟩
  simp [results, Tryz.results19, go_sem, r0, r1, rl]; done
set_option maxHeartbeats 1600000 in
theorem spec_DrawNextOf (v : Value) (zs : List Int) (w : World) (hr : Rd w w.heap.size v zs.length (icells .u8 zs)) (hz : ∀ z ∈ zs, 0 ≤ z ∧ z ≤ 255) :
    Calls Tryz.prog 17 #[v] w (DNextP w) := by
  obtain ⟨A, c, rfl, _⟩ := id hr
  obtain ⟨h1, h2, h3, h4⟩ := dc_start (t := 41) (rs := #[.int .i64 0, .int .i64 0]) hr hz
  have H1 := hide h1; have H2 := hide h2; have H3 := hide h3; have H4 := hide h4
  clear hr h1 h2 h3 h4
  go_enter Tryz.func17, Tryz.ntmps17
  go_wp2_with (first
    | (go_at_call 35; go_must (refine (cur_ins (w.heap.size + 1) A c zs 0 _ H1.out (by omega)).mono ?_); rintro e w1 ⟨o, n, rfl, hc1, hd1⟩; have Hc := hide hc1; have Hd := hide hd1; clear hc1 hd1)
    | (go_at_call 38; go_must (refine (cur_amL Hc.out (by omega) [0, 1, 7, 300, 301, -1] (by simp) (by simp)).mono ?_); rintro e w2 ⟨a, rfl, _, hc1, hd1⟩; have hd2 := (Hd.out.alloc _).trans hd1; have hk := hd2.bk H2.out (by omega); have r0 := hk.cell 0; have r1 := hk.cell 1; have f0 := hk.frozen 0; have f1 := hk.frozen 1; have rl := hk.lt; have Hb := hide (H3.out.trans (hd2.below (by omega) (by have := H4.out; omega))); clear hk hc1 hd1 hd2))
  refine bodyPost_ret (v := .tuple #[.agg #[.int .i64 o, .int .i64 n], .int .i64 a]) ?_ rfl ⟨o, n, a, rfl, (Hb.out.setCell (p := ⟨w.heap.size, 0, none⟩) (Nat.le_refl _) _).setCell (p := ⟨w.heap.size, 1, none⟩) (Nat.le_refl _) _⟩
  simp [results, Tryz.results17, go_sem, r0, r1, rl]; done
set_option maxHeartbeats 3200000 in
theorem spec_DrawTakesPuts (v : Value) (zs : List Int) (w : World) (hr : Rd w w.heap.size v zs.length (icells .u8 zs)) (hz : ∀ z ∈ zs, 0 ≤ z ∧ z ≤ 255) :
    Calls Tryz.prog 15 #[v] w (DTakesP w) := by
  obtain ⟨A, c, rfl, _⟩ := id hr
  have hb0 := (Below.refl w.heap.size w).alloc (Nat.le_refl _) (.cells #[.slice none 0 0] 26)
  obtain ⟨h1, h2, h3, h4⟩ := dc_start (t := 41) (rs := #[.int .i64 0, .int .i64 0]) (hr.here hb0) hz
  have h0 := ((Bk.new w 26 #[.slice none 0 0]).alloc (.cells #[.int .i64 0, .int .i64 0] 41)).alloc (.cells #[.slice A zs.length c, .int .i64 0, .int .u64 0] 64)
  have h5 := hb0.trans (h3.mono (by rw [World.size_alloc]; exact Nat.le_succ _))
  have h6 : (w.alloc (.cells #[.slice none 0 0] 26)).heap.size = w.heap.size + 1 := World.size_alloc _ _
  rw [h6] at h1 h2 h4
  have H0 := hide h0; have H1 := hide h1; have H2 := hide h2; have H4 := hide h4; have H5 := hide h5
  clear hr h0 h1 h2 h3 h4 h5 h6 hb0
  go_enter Tryz.func15, Tryz.ntmps15
  go_wp2_with (first
    | (go_at_call 34; go_must (refine (cur_anyImage (w.heap.size + 1 + 1) A c zs 0 _ H1.out H4.out (by omega)).mono ?_); rintro e w1 ⟨pA, pc, n, rfl, ⟨hn1, hn5⟩, hp, hc1, hd1⟩; have Hc := hide hc1; have Hd := hide hd1; have HP := hide hp; clear hp hc1 hd1)
    | (go_at_call 35; go_must (refine (cur_ins (w.heap.size + 1 + 1) A c zs _ _ Hc.out (by omega)).mono ?_); rintro e w2 ⟨o, m, rfl, hc1, hd1⟩; have hd2 := Hd.out.trans hd1; have HP := hide (HP.out.dw hd1 (Nat.lt_succ_self _)); have hk := hd2.bk H2.out (by omega); have r0 := hk.cell 0; have r1 := hk.cell 1; have f0 := hk.frozen 0; have f1 := hk.frozen 1; have rl := hk.lt; have hi := hd2.bk H0.out (by omega); have q0 := hi.cell 0; have qf := hi.frozen 0; have ql := hi.lt; have Hb := hide (H5.out.trans (hd2.below (by omega) (by have := H4.out; omega))); clear hk hi hc1 hd1 hd2))
  have hP2 := (HP.out.dw ((Dw.refl w.heap.size w2).set 0 (.slice pA n pc)) (by omega)).dw (((Dw.refl (w.heap.size + 1) (w2.setCell ⟨w.heap.size, 0, none⟩ (.slice pA n pc))).set 0 (.int .i64 o)).set 1 (.int .i64 m)) (by omega)
  obtain ⟨fs, rfl, hr, hz⟩ := hP2.r (by omega)
  have Hr := hide (hr.more RCode_stable (Nat.zero_le _) (Nat.le_refl _))
  have HB := hide (((Hb.out.setCell (p := ⟨w.heap.size, 0, none⟩) (Nat.le_refl _) (.slice pA fs.length pc)).setCell (p := ⟨w.heap.size + 1, 0, none⟩) (Nat.le_succ _) (.int .i64 o)).setCell (p := ⟨w.heap.size + 1, 1, none⟩) (Nat.le_succ _) (.int .i64 m))
  clear hr hP2
  refine bodyPost_ret (v := .tuple #[.agg #[.slice pA fs.length pc], .agg #[.int .i64 o, .int .i64 m]]) ?_ rfl ⟨pA, pc, fs, o, m, rfl, Hr.out, hz, HB.out⟩
  simp [results, Tryz.results15, go_sem, r0, r1, rl, q0, ql]; done
end Go.Proofs.YtgkjakoagdkpcaaGreatDoor
