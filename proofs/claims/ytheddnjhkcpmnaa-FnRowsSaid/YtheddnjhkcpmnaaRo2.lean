
/- spec.rows, the walk. No condition. -/
import Derived.Test.YtheddnjhkcpmnaaRo
set_option linter.unusedSimpArgs false
set_option linter.unusedVariables false
set_option maxRecDepth 100000
namespace Go.Proofs.Ytheddnjhkcpmnaa
open Go.RowKit

theorem own0R (w : World) {lo : Nat} (h : lo ≤ w.heap.size) : (w.alloc (.cells #[] 72)).ownsRow lo 72 3 (.slice (some ⟨w.heap.size, 0, none⟩) 0 0) 0 [] :=
  ⟨rfl, .inr ⟨w.heap.size, 0, #[], rfl, h, heap_alloc_new w _, Nat.le_refl _, by unfold maxLen; omega, rfl, rfl⟩⟩
theorem rcells_one (l : List R3) : ∀ u ∈ rcells l, u.oneCell' = true := by
  intro u hu
  obtain ⟨r, _, h⟩ := List.mem_flatMap.1 hu
  simp only [R3.cell, List.mem_cons, List.not_mem_nil, or_false] at h
  rcases h with rfl | rfl | rfl <;> simp [Value.oneCell']
/-- what region 2 keeps -/
def r2S (F : Nat → Option Value) (h q : Nat) (v : Value) (w : World) : Prop := w.cell? ⟨h, 0, none⟩ = some v ∧ h < w.heap.size ∧ ∀ i, w.cell? ⟨q, i, none⟩ = F i
section
variable {F : Nat → Option Value} {w : World} {h q z : Nat} {t : TypeId} {v : Value}
theorem r2_dw {g : Nat} {W : World} (D : ∀ i, W.cell? ⟨q, i, none⟩ = F i) (hd : Dw g W w) (hg : g < q) (hq : q < W.heap.size) : ∀ i, w.cell? ⟨q, i, none⟩ = F i := fun i => (World.cell?_of_block (hd.block q (by omega) hq)).trans (D i)
theorem r2_at (H : Bk w h t #[v]) (D : ∀ i, w.cell? ⟨q, i, none⟩ = F i) : w.cell? ⟨h, 0, none⟩ = some v ∧ h < w.heap.size ∧ ∀ i, w.cell? ⟨q, i, none⟩ = F i := ⟨H.cell 0, H.lt, D⟩
theorem r2_dr (H : Bk w h t #[v]) (D : ∀ i, w.cell? ⟨q, i, none⟩ = F i) : w.drew.cell? ⟨h, 0, none⟩ = some v ∧ h < w.drew.heap.size ∧ ∀ i, w.drew.cell? ⟨q, i, none⟩ = F i := ⟨H.drew.cell 0, H.drew.lt, D⟩
theorem r2_al (H : Bk w h t #[v]) (D : ∀ i, w.cell? ⟨q, i, none⟩ = F i) (hq : q < w.heap.size) (o : Obj) : (w.alloc o).cell? ⟨h, 0, none⟩ = some v ∧ h < (w.alloc o).heap.size ∧ ∀ i, (w.alloc o).cell? ⟨q, i, none⟩ = F i := ⟨(H.alloc o).cell 0, (H.alloc o).lt, fun i => (World.cell?_of_block (heap_alloc_old w o hq)).trans (D i)⟩
theorem r2_ad (H : Bk w h t #[v]) (D : ∀ i, w.cell? ⟨q, i, none⟩ = F i) (hq : q < w.heap.size) (o : Obj) : (w.alloc o).drew.cell? ⟨h, 0, none⟩ = some v ∧ h < (w.alloc o).drew.heap.size ∧ ∀ i, (w.alloc o).drew.cell? ⟨q, i, none⟩ = F i := r2_al H D hq o
theorem r2_s1 (H : r2S F h q v w) (h1 : h ≠ z) (h2 : q ≠ z) (i : Nat) (a : Value) : r2S F h q v (w.setCell ⟨z, i, none⟩ a) := by
  refine ⟨(World.cell?_of_block (Below.heap_setCell _ _ _ _ (by exact h1))).trans H.1, by rw [World.size_setCell]; exact H.2.1, fun j => (World.cell?_of_block (Below.heap_setCell _ _ _ _ (by exact h2))).trans (H.2.2 j)⟩
theorem r2_s5 (H : Bk w h t #[v]) (D : ∀ i, w.cell? ⟨q, i, none⟩ = F i) (h1 : h ≠ z) (h2 : q ≠ z) (a0 a1 a2 a3 a4 : Value) : (((((w.setCell ⟨z, 0, none⟩ a0).setCell ⟨z, 1, none⟩ a1).setCell ⟨z, 2, none⟩ a2).setCell ⟨z, 3, none⟩ a3).setCell ⟨z, 4, none⟩ a4).cell? ⟨h, 0, none⟩ = some v ∧ h < (((((w.setCell ⟨z, 0, none⟩ a0).setCell ⟨z, 1, none⟩ a1).setCell ⟨z, 2, none⟩ a2).setCell ⟨z, 3, none⟩ a3).setCell ⟨z, 4, none⟩ a4).heap.size ∧ ∀ i, (((((w.setCell ⟨z, 0, none⟩ a0).setCell ⟨z, 1, none⟩ a1).setCell ⟨z, 2, none⟩ a2).setCell ⟨z, 3, none⟩ a3).setCell ⟨z, 4, none⟩ a4).cell? ⟨q, i, none⟩ = F i :=
  r2_s1 (r2_s1 (r2_s1 (r2_s1 (r2_s1 (r2_at H D) h1 h2 0 a0) h1 h2 1 a1) h1 h2 2 a2) h1 h2 3 a3) h1 h2 4 a4
end
def RowsP (g : Nat) (A : Option Addr) (c : Nat) (zs : List Int) (K : Nat) (w : World) (e : Ending) (w' : World) : Prop := ∃ (rA : Option Addr) (rc : Nat) (rl : List R3) (many : Int), e = .returned (.tuple #[.slice rA rl.length rc, .int .i64 many]) ∧ rl.length ≤ 5 ∧ (0 ≤ many ∧ many ≤ 301) ∧ w'.ownsRow (g + 1) 72 3 (.slice rA rl.length rc) rl.length (rcells rl) ∧ Cur g A c zs (K + 200100) w' ∧ Dw g w w'
set_option maxHeartbeats 64000000 in
theorem cur_rows (g : Nat) (A : Option Addr) (c : Nat) (zs : List Int) (K : Nat) (w : World) (hc : Cur g A c zs K w) (hw : w.heap.size = g + 1) (hK : K ≤ 70000000000000000) :
    Calls Try.prog 101 #[.pointer (some ⟨g, 0, none⟩)] w (RowsP g A c zs K w) := by
  have Hc := hide hc; have Hw := hide hw
  clear hc hw
  go_enter Try.func101, Try.ntmps101
  go_upto_region 2 with (go_at_call 129; go_must (refine (cur_image g A c zs _ _ Hc.out (by omega)).mono ?_); rintro e w1 ⟨iA, ic, n, rfl, ⟨hn1, hn5⟩, hi, hc1, hd1⟩; have Hi := hide (hi.dw ((Dw.refl g w1).alloc (.cells #[.slice iA n ic] 138))); have Hc := hide (hc1.below ((Below.refl _ _).alloc (Nat.le_refl _) (.cells #[.slice iA n ic] 138))); have Hd := hide (hd1.alloc (.cells #[.slice iA n ic] 138)); have Hx := hide (Bk.new w1 138 #[.slice iA n ic]); have hgx := hc1.lt; clear hi hc1 hd1)
  obtain ⟨q, rfl, hgq, hql, hnc⟩ := Hi.out.first hn1
  have x0 := Hx.out.cell 0; have xl := Hx.out.lt
  generalize hh : w1.heap.size = h at *
  generalize w1.alloc (.cells #[.slice (some ⟨q, 0, none⟩) n ic] 138) = W1 at *
  have hg1 : g < W1.heap.size := Hc.out.lt
  have hhz : h ≠ W1.heap.size := Nat.ne_of_lt xl
  have hqz : q ≠ W1.heap.size := Nat.ne_of_lt hql
  obtain ⟨F, hF⟩ : ∃ F : Nat → Option Value, ∀ i, W1.cell? ⟨q, i, none⟩ = F i := ⟨fun i => W1.cell? ⟨q, i, none⟩, fun _ => rfl⟩
  have HF := Lib.hid hF; have HD0 := Lib.hid hF
  clear hF
  have Hz := hide ((Bk.new W1 142 #[.int .i64 0, .int .i64 0, .slice none 0 0, .slice none 0 0, .slice none 0 0]).drew)
  go_cut [5] (fun t wx => ∃ (qb : Nat) (P V : Int) (sA : Option Addr) (sc : Nat) (sl : List Int) (jA : Option Addr) (jc : Nat) (il : List P2) (rA : Option Addr) (rc : Nat) (rl : List R3), t = .pointer (some ⟨qb, 0, none⟩) ∧ g < qb ∧ Bk wx qb 142 #[.int .i64 P, .int .i64 V, .slice sA sl.length sc, .slice jA il.length jc, .slice rA rl.length rc] ∧ (1 ≤ il.length ∧ il.length ≤ 222) ∧ rl.length ≤ 5 ∧ RoS g A c zs w (K + 200004) (.slice rA rl.length rc) rl wx)
  case first =>
    go_region_held3 (fun w' => w'.cell? ⟨h, 0, none⟩ = some (.slice (some ⟨q, 0, none⟩) n ic) ∧ h < w'.heap.size ∧ ∀ i, w'.cell? ⟨q, i, none⟩ = F i)
      (first | with_reducible exact r2_at Hx.out HD0.out | with_reducible exact r2_dr Hx.out HD0.out | with_reducible exact r2_al Hx.out HD0.out (by omega) _ | with_reducible exact r2_ad Hx.out HD0.out (by omega) _ | with_reducible exact r2_s5 Hx.out HD0.out hhz hqz _ _ _ _ _)
      (first
        | (go_at_call 70; go_must (refine (cur_pick g A c zs (K + 200002) _ _ (by first | with_reducible exact Hc.out | with_reducible exact Hc.out.drw | with_reducible exact (Hc.out.aloR _).drw | with_reducible exact Hc.out.drw.aloR _) (by omega) (by omega)).mono ?_); rintro e w2 ⟨x, rfl, hx, hc1, hd1⟩; obtain ⟨x, rfl, hxn⟩ := pick_nat hx (show 0 < n by omega); have hxI : (x : Int) < (n : Int) := Int.ofNat_lt.2 hxn; have hxI0 : (0 : Int) ≤ (x : Int) := Int.natCast_nonneg x; (try have hz2 := hd1.bk Hz.out (by omega)); (try have z0 := hz2.cell 0); (try have z1 := hz2.cell 1); (try have z2 := hz2.cell 2); (try have z3 := hz2.cell 3); (try have z4 := hz2.cell 4); (try have f0 := hz2.frozen 0); (try have f1 := hz2.frozen 1); (try have f2 := hz2.frozen 2); (try have f3 := hz2.frozen 3); (try have f4 := hz2.frozen 4); (try have zl := hz2.lt); (try have Hz2 := hide hz2); have hd1 := (by first | with_reducible exact hd1 | with_reducible exact dw_drew hd1 | with_reducible exact dw_aloR (dw_drew hd1) : Dw g W1 w2); have Hx := hide (hd1.bk Hx.out (by omega)); have x0 := Hx.out.cell 0; have xl := Hx.out.lt; obtain ⟨P, V, sA, sc, sl, jA, jc, il, rA, rc, rl, k0, k1, k2, k3, k4, hil, hrl, hro⟩ := Hi.out.at_ hxn; rw [HF.out] at k0 k1 k2 k3 k4; have hro := hd1.own hro (Nat.lt_succ_self _); have hqw : q < w2.heap.size := Nat.lt_of_lt_of_le hql hd1.size; have HD0 := Lib.hid (r2_dw HF.out hd1 hgq hql); have HS := hide (show RoS g A c zs w (K + 200004) (.slice rA rl.length rc) rl w2 from ⟨hc1, Hd.out.trans hd1, Hw.out, hro⟩); have hgw2 := hc1.lt; (try clear hz2); clear hc1 hd1 hx hro))
    · go_wp2_with fail
      go_meet
      exact ⟨w2.heap.size, P, V, sA, sc, sl, jA, jc, il, rA, rc, rl, rfl, hgw2, Bk.new _ _ _, hil, hrl, HS.out.alloc _⟩
    · go_wp2_with fail
      go_meet
      exact ⟨W1.heap.size, P, V, sA, sc, sl, jA, jc, il, rA, rc, rl, rfl, hg1, ((((Hz2.out.set 0 _).set 1 _).set 2 _).set 3 _).set 4 _, hil, hrl, HS.out.far5 hg1 Hz2.out (by decide) _ _ _ _ _⟩
  case rest =>
    obtain ⟨qb, P, V, sA, sc, sl, jA, jc, il, rA, rc, rl, rfl, hqb, hk, hil, hrl, hs⟩ := hcut
    have HK := hide hk; have HS := hide hs
    clear hk hs Hc Hi Hd Hx Hz x0 xl
    have k3 := HK.out.cell 3; have k4 := HK.out.cell 4; have kl := HK.out.lt
    have Ha := hide (HS.out.alloc (.cells #[] 72))
    have Hn := hide (own0R wc (lo := g + 1) HS.out.cur.lt)
    go_upto_region 3 with fail
    iterate 10 go_step
    go_must (refine wpList_catOwn rfl _ _ _ rfl okRowL rfl Hn.out rfl Ha.out.own (rcells_one rl) (by unfold maxLen; omega) (by omega) Ha.out.cur.lt ?_)
    intro v3 w3 hown3 hg3
    obtain ⟨rA3, rc3, rfl⟩ := own_form hown3
    have hb3 := hg3.toBelow Hn.out Ha.out.cur.lt
    have hq3 := hg3.bk (HK.out.alloc (.cells #[] 72)) (fun e => Nat.ne_of_lt HK.out.lt (Option.some.inj e))
    have k3 := hq3.cell 3; have kl := hq3.lt
    have HS := hide (show RoS g A c zs w (K + 200004) (.slice rA3 (0 + rl.length) rc3) rl w3 from ⟨Ha.out.cur.keepG2 hb3 (Nat.lt_succ_self _), Ha.out.dw.belowW hb3 (by rw [Hw.out]; exact Nat.le_refl _), Hw.out, by simpa using hown3⟩)
    rw [Nat.zero_add] at HS ⊢
    clear hown3 hg3 hb3 hq3 k4 HK Ha Hn
    go_upto_if 31 with (go_at_call 65; go_must (refine (cur_one g A c zs (K + 200004) _ _ HS.out.cur (by omega) (by omega)).mono ?_); rintro e w4 ⟨b4, rfl, hc1, hd1⟩; have HS := hide (HS.out.step hc1 hd1); clear hc1 hd1)
    clear k3 kl
    go_cut [6, 7] (fun rv mv wx => ∃ (rA : Option Addr) (rc : Nat) (rl : List R3) (many : Int), rv = .slice rA rl.length rc ∧ mv = .int .i64 many ∧ rl.length ≤ 5 ∧ (1 ≤ many ∧ many ≤ 222) ∧ RoS g A c zs w (K + 200050) (.slice rA rl.length rc) rl wx)
    case first =>
      cases b4
      · go_wp2_with fail
        go_meet
        exact ⟨rA3, rc3, rl, il.length, rfl, rfl, hrl, by omega, HS.out.more (by omega)⟩
      · have HS0 := hide (show RoS g A c zs w (K + 200006) (.slice none 0 0) [] w4 from ⟨HS.out.cur, HS.out.dw, HS.out.hw, World.ownsRow_nil _ _ _ _⟩)
        clear HS
        go_upto_region 10 with (go_at_call 70; go_must (refine (cur_pick g A c zs (K + 200006) _ _ HS0.out.cur (by omega) (by omega)).mono ?_); rintro e w5 ⟨x5, rfl, hx5, hc1, hd1⟩; obtain ⟨x5, rfl, hx6⟩ := pick_nat (n := 5) hx5 (by decide); have HS0 := hide (HS0.out.step hc1 hd1); clear hc1 hd1 hx5)
        go_loopw [6, 8, 9] (fun rv av nv wr => ∃ (n : Nat) (a : Int) (rA : Option Addr) (rc : Nat) (rl : List R3), rv = .slice rA rl.length rc ∧ av = .int .i64 a ∧ nv = .int .i64 n ∧ n + rl.length ≤ 4 ∧ RoS g A c zs w (K + 200008 + 6 * rl.length) (.slice rA rl.length rc) rl wr) (fun _ _ nv _ => (intOf nv).toNat)
        case atStart => exact ⟨x5, 0, none, 0, [], rfl, rfl, rfl, by simp; omega, HS0.out⟩
        case round =>
          obtain ⟨n6, a6, rA6, rc6, rl6, rfl, rfl, rfl, hnl, hs⟩ := hrel
          have HS := hide hs
          clear hs HS0
          have hgw : g < wr.heap.size := HS.out.cur.lt
          by_cases hn6 : n6 = 0
          case pos =>
            subst hn6
            go_wp2_with fail
            go_meet
            exact ⟨rA6, rc6, rl6, 20, rfl, rfl, by omega, by omega, HS.out.more (by omega)⟩
          case neg =>
            have hnI : (0 : Int) < (n6 : Int) := by omega
            go_upto_region 13 with (go_at_call 70; go_must (refine (cur_pick g A c zs (K + 200008 + 6 * rl6.length) _ _ HS.out.cur (by omega) (by omega)).mono ?_); rintro e w7 ⟨x7, rfl, hx7, hc1, hd1⟩; have HS7 := hide (HS.out.step hc1 hd1); have hg7 := hc1.lt; clear hc1 hd1 hx7)
            have Ht := hide (Bk.new w7 72 #[.int .i64 (wrap64 (a6 + x7)), .int .i64 0, .int .i64 0])
            have hne7 : (Value.slice rA6 rl6.length rc6).ownBlock ≠ some w7.heap.size := fun e => by have := (HS7.out.own.lt _ e).2; omega
            have HS7 := hide (HS7.out.alloc (.cells #[.int .i64 (wrap64 (a6 + x7)), .int .i64 0, .int .i64 0] 72))
            generalize hq7 : w7.heap.size = q7 at *
            generalize w7.alloc (.cells #[.int .i64 (wrap64 (a6 + x7)), .int .i64 0, .int .i64 0] 72) = W7 at *
            generalize wrap64 (a6 + x7) = y7 at *
            have HSd := hide HS7.out.drw; have Htd := hide Ht.out.drew
            have t0 := Htd.out.cell 0; have tl := Htd.out.lt
            go_region_held3 (fun w' => w'.cell? ⟨q7, 0, none⟩ = some (.int .i64 y7) ∧ q7 < w'.heap.size) (first | exact ⟨Ht.out.cell 0, Ht.out.lt⟩ | exact ⟨Htd.out.cell 0, Htd.out.lt⟩ | exact ⟨Ht8.out.cell 0, Ht8.out.lt⟩ | exact ⟨(Ht8.out.set 1 _).cell 0, (Ht8.out.set 1 _).lt⟩)
              ((go_at_call 70; go_must (refine (cur_pick g A c zs (K + 200008 + 6 * rl6.length + 2) _ _ HSd.out.cur (by omega) (by omega)).mono ?_); rintro e w8 ⟨x8, rfl, hx8, hc1, hd1⟩; have HS8 := hide (HSd.out.step hc1 hd1); have Ht8 := hide (hd1.bk Htd.out (by omega)); have t0 := Ht8.out.cell 0; have t1 := Ht8.out.cell 1; have f1 := Ht8.out.frozen 1; have tl := Ht8.out.lt; clear hc1 hd1 hx8))
            all_goals
              generalize IntKind.i64.wrap (IntKind.i64.wrap (y7 + 1) + x8) = z8 at *
              have HS9 := hide (HS8.out.far (by omega) hne7 1 (.int .i64 z8))
              have Ht9 := hide (Ht8.out.set 1 (.int .i64 z8))
              clear HS8 Ht8 t0 t1 f1 tl HSd Htd
              generalize w8.setCell ⟨q7, 1, none⟩ (.int .i64 z8) = w9 at *
              have t1 := Ht9.out.cell 1; have tl := Ht9.out.lt
              go_wp2_with (first
                | (go_at_call 112; go_must (refine (cur_amL HS9.out.cur (by omega) [19, 19, z8, 3] (by simp) (by simp)).mono ?_); rintro e w10 ⟨z10, rfl, _, hc1, hd1⟩; have HS10 := hide ((HS9.out.alloc _).step hc1 hd1); have Ht10 := hide (hd1.bk (Ht9.out.alloc _) (by omega)); have t0 := Ht10.out.cell 0; have t1 := Ht10.out.cell 1; have t2 := Ht10.out.cell 2; have f2 := Ht10.out.frozen 2; have tl := Ht10.out.lt; have HS11 := hide (HS10.out.far (by omega) hne7 2 (.int .i64 z10)); have Ht11 := hide (Ht10.out.set 2 (.int .i64 z10)); clear hc1 hd1)
                | (at_builtin; go_must (refine wpList_pushG rfl _ _ _ rfl okRowL rfl HS11.out.own _ rfl (World.size_setCell _ _ _).symm rfl (by simp [Value.oneCell']) (by unfold maxLen; omega) (by omega) HS11.out.cur.lt ?_); intro v12 w12 hown12 hg12; obtain ⟨rA12, rc12, rfl⟩ := own_form hown12; have Ht12 := hide (hg12.bk Ht11.out (fun e => hne7 e.symm)); have HS12 := hide (HS11.out.push (rl' := rl6 ++ [⟨y7, z8, z10⟩]) (by rw [rcells_append, List.length_append]; exact hown12) hg12); have t1 := Ht12.out.cell 1; have tl := Ht12.out.lt; clear hown12 hg12))
              go_roundw
              case rel =>
                have hll : (rl6 ++ [(⟨y7, z8, z10⟩ : R3)]).length = rl6.length + 1 := by simp
                exact ⟨n6 - 1, z8, rA12, rc12, rl6 ++ [⟨y7, z8, z10⟩], by rw [hll], rfl, congrArg (Value.int .i64) (by omega), by omega, by rw [hll]; exact HS12.out.more (by omega)⟩
              case measure => simp [intOf]; omega
    case rest =>
      obtain ⟨rA, rc, rl, many, rfl, rfl, hrl, hm, hs⟩ := hcut
      have HS := hide hs
      clear hs
      go_upto_if 64 with fail
      go_cut [] (fun wx => ∃ rl' : List R3, rl'.length = rl.length ∧ RoS g A c zs w (K + 200060) (.slice rA rl.length rc) rl' wx)
      case first =>
        by_cases h0p : 0 < rl.length
        case neg =>
          have h0I : ¬ (0 : Int) < (rl.length : Int) := by omega
          go_wp2_with fail
          go_meet
          exact ⟨rl, rfl, HS.out.more (by omega)⟩
        case pos =>
          have h0I : (0 : Int) < (rl.length : Int) := by omega
          obtain ⟨qr, _, _, _, rfl, _⟩ := HS.out.at_ h0p
          go_upto_if 73 with (first
            | (go_at_call_of 70 (Value.int .i64 20); go_must (refine (cur_pick g A c zs (K + 200052) _ _ HS.out.cur (by omega) (by omega)).mono ?_); rintro e w21 ⟨z21, rfl, hz21, hc1, hd1⟩; have HS := hide (HS.out.step hc1 hd1); clear hc1 hd1)
            | (go_at_call 70; go_must (refine (cur_pick g A c zs (K + 200050) _ _ HS.out.cur (by omega) (by omega)).mono ?_); rintro e w20 ⟨x20, rfl, hx20, hc1, hd1⟩; obtain ⟨x20, rfl, hxn⟩ := pick_nat hx20 h0p; have hxI : (x20 : Int) < (rl.length : Int) := Int.ofNat_lt.2 hxn; have hxI0 : (0 : Int) ≤ (x20 : Int) := Int.natCast_nonneg x20; have HS := hide (HS.out.step hc1 hd1); clear hc1 hd1 hx20))
          obtain ⟨q', a', b', d', e, hgq', hql', c0, c1, c2, hfr⟩ := HS.out.at_ hxn
          cases e
          have y0 := hfr (x20 * 3); have y1 := hfr (x20 * 3 + 1); have y2 := hfr (x20 * 3 + 2)
          clear hfr
          by_cases g0 : z21 = 0
          · subst g0
            go_wp2_with fail
            go_meet
            obtain ⟨rl', h1, h2⟩ := HS.out.put (x20 * 3 + 1) a'
            exact ⟨rl', h1, h2.more (by omega)⟩
          by_cases g1 : z21 = 1
          · subst g1
            go_wp2_with (go_at_call 112; go_must (refine (cur_amL HS.out.cur (by omega) [-1, _, many] (by simp) (by simp)).mono ?_); rintro e w22 ⟨z22, rfl, _, hc1, hd1⟩; have HS := hide ((HS.out.alloc _).step hc1 hd1); obtain ⟨q'', _, _, d2, e, _, hql2, _, _, c2, hfr2⟩ := HS.out.at_ hxn; cases e; have y2 := hfr2 (x20 * 3 + 2); clear hc1 hd1 hfr2)
            go_meet
            obtain ⟨rl', h1, h2⟩ := HS.out.put (x20 * 3 + 2) z22
            exact ⟨rl', h1, h2.more (by omega)⟩
          by_cases g2 : z21 = 2
          · subst g2
            go_wp2_with fail
            go_meet
            obtain ⟨rl', h1, h2⟩ := HS.out.put (x20 * 3) (wrap64 (a' - 1))
            exact ⟨rl', h1, h2.more (by omega)⟩
          · go_wp2_with fail
            go_meet
            exact ⟨rl, rfl, HS.out.more (by omega)⟩
      case rest =>
        obtain ⟨rl', hll, hs⟩ := hcut
        have HS := hide hs
        clear hs
        go_upto_if 103 with (go_at_call 65; go_must (refine (cur_one g A c zs (K + 200060) _ _ HS.out.cur (by omega) (by omega)).mono ?_); rintro e w23 ⟨b23, rfl, hc1, hd1⟩; have HS := hide (HS.out.step hc1 hd1); clear hc1 hd1)
        rw [← hll] at HS ⊢
        have Hll := hide hll
        have hrl' : rl'.length ≤ 5 := by omega
        clear hll hrl
        cases b23
        · go_wp2_with fail
          go_ret2
          exact ⟨rA, rc, rl', many, rfl, hrl', by omega, HS.out.own, HS.out.cur.more (by omega), HS.out.dw⟩
        · go_wp2_with (go_at_call 112; go_must (refine (cur_amL HS.out.cur (by omega) [0, 300, 301] (by simp) (by simp)).mono ?_); rintro e w24 ⟨z24, rfl, hz24, hc1, hd1⟩; have HS := hide ((HS.out.alloc _).step hc1 hd1); clear hc1 hd1)
          go_ret2
          have hz : 0 ≤ z24 ∧ z24 ≤ 301 := by
            simp only [List.mem_cons, List.not_mem_nil, or_false] at hz24
            omega
          exact ⟨rA, rc, rl', z24, rfl, hrl', hz, HS.out.own, HS.out.cur.more (by omega), HS.out.dw⟩
end Go.Proofs.Ytheddnjhkcpmnaa
set_option linter.unusedSimpArgs false
set_option linter.unusedVariables false
set_option maxRecDepth 100000
namespace Go.Proofs.Ytheddnjhkcpmnaa
open Go.RowKit

def DRowsP (w : World) (e : Ending) (w' : World) : Prop := ∃ (rA : Option Addr) (rc : Nat) (rl : List R3) (many : Int), e = .returned (.tuple #[.slice rA rl.length rc, .int .i64 many]) ∧ rl.length ≤ 5 ∧ (0 ≤ many ∧ many ≤ 301) ∧ Rd w' w'.heap.size (.slice rA rl.length rc) rl.length (rcells rl) ∧ Below w.heap.size w w'
set_option maxHeartbeats 1600000 in
theorem spec_DrawGoodRows (v : Value) (zs : List Int) (w : World) (hr : Rd w w.heap.size v zs.length (icells .u8 zs)) (hz : ∀ z ∈ zs, 0 ≤ z ∧ z ≤ 255) :
    Calls Try.prog 96 #[v] w (DRowsP w) := by
  obtain ⟨A, c, rfl, hc⟩ := cur_start hr hz
  have Hc := hide hc
  clear hr hc
  go_enter Try.func96, Try.ntmps96
  go_wp2_with (go_at_call 101; refine (cur_rows w.heap.size A c zs 0 _ Hc.out (by rw [World.size_alloc]) (by omega)).mono ?_; rintro e w1 ⟨rA, rc, rl, many, rfl, hrl, hm, ho, _, hd⟩; have Ho := hide (Rd.of_own ho); have Hb := hide (dw_below hd); clear ho hd)
  go_ret2
  exact ⟨rA, rc, rl, many, rfl, hrl, hm, Ho.out, Hb.out⟩
set_option maxHeartbeats 1600000 in
theorem spec_DrawJoinRows (v : Value) (zs : List Int) (w : World) (hr : Rd w w.heap.size v zs.length (icells .u8 zs)) (hz : ∀ z ∈ zs, 0 ≤ z ∧ z ≤ 255) :
    Calls Try.prog 44 #[v] w (DRowsP w) := by
  have HD := hide (spec_DrawGoodRows v zs w hr hz)
  obtain ⟨A, c, rfl, _⟩ := id hr
  clear hr
  go_enter Try.func44, Try.ntmps44
  go_wp2_with (go_at_call 96; refine HD.out.mono ?_; rintro e w1 ⟨rA, rc, rl, many, rfl, hrl, hm, ho, hb⟩; have Ho := hide ho; have Hb := hide hb; clear ho hb)
  go_ret2
  exact ⟨rA, rc, rl, many, rfl, hrl, hm, Ho.out, Hb.out⟩
def DPadP (w : World) (e : Ending) (w' : World) : Prop := ∃ (rA : Option Addr) (rc : Nat) (rl : List R3) (many at_ : Int), e = .returned (.tuple #[.slice rA rl.length rc, .int .i64 many, .int .i64 at_]) ∧ rl.length ≤ 5 ∧ (0 ≤ many ∧ many ≤ 301) ∧ Rd w' w'.heap.size (.slice rA rl.length rc) rl.length (rcells rl) ∧ Below w.heap.size w w'
set_option maxHeartbeats 1600000 in
theorem spec_DrawPadFor (v : Value) (zs : List Int) (w : World) (hr : Rd w w.heap.size v zs.length (icells .u8 zs)) (hz : ∀ z ∈ zs, 0 ≤ z ∧ z ≤ 255) :
    Calls Try.prog 53 #[v] w (DPadP w) := by
  obtain ⟨A, c, rfl, hc⟩ := cur_start hr hz
  have Hc := hide hc
  clear hr hc
  go_enter Try.func53, Try.ntmps53
  go_wp2_with (first
    | (go_at_call 101; refine (cur_rows w.heap.size A c zs 0 _ Hc.out (by rw [World.size_alloc]) (by omega)).mono ?_; rintro e w1 ⟨rA, rc, rl, many, rfl, hrl, ⟨hm1, hm2⟩, ho, hc1, hd⟩; have Hc := hide hc1; have Ho := hide ho; have Hd := hide hd; clear ho hd hc1)
    | (go_at_call 102; refine (spec_l1Most _ _ _).mono ?_; rintro e w2 ⟨he, rfl⟩; obtain ⟨M, hM⟩ : ∃ M, M = max 1 many := ⟨_, rfl⟩; rw [← hM] at he; subst he; have hM1 : 1 ≤ M ∧ M ≤ 301 := (by omega); clear hM)
    | (go_at_call_of 70 (Value.int .i64 20); refine (cur_pick w.heap.size A c zs (0 + 200100 + 2) _ _ Hc.out (by omega) (by omega)).mono ?_; rintro e w4 ⟨x4, rfl, _, hc1, hd1⟩; have Ho := hide (hd1.own Ho.out (Nat.lt_succ_self _)); have Hd := hide (Hd.out.trans hd1); have Hc := hide hc1; clear hc1 hd1)
    | (go_at_call 70; refine (cur_pick w.heap.size A c zs (0 + 200100) _ _ Hc.out (by omega) (by omega)).mono ?_; rintro e w3 ⟨x3, rfl, _, hc1, hd1⟩; have Ho := hide (hd1.own Ho.out (Nat.lt_succ_self _)); have Hd := hide (Hd.out.trans hd1); have Hc := hide hc1; clear hc1 hd1))
  refine bodyPost_ret (v := .tuple #[.slice rA rl.length rc, .int .i64 many, .int .i64 (x3 - x4 / 19)]) ?_ rfl ⟨rA, rc, rl, many, _, rfl, hrl, ⟨hm1, hm2⟩, Rd.of_own Ho.out, dw_below Hd.out⟩
  simp [results, Try.results53, go_sem]; done
end Go.Proofs.Ytheddnjhkcpmnaa
