
/- spec.DrawNeedsOf: what the Go text returns. No condition. -/
import Derived.Test.YtheddnjhkcpmnaaGreatDoorExd
set_option linter.unusedSimpArgs false
set_option linter.unusedVariables false
set_option maxRecDepth 100000
namespace Go.Proofs.YtheddnjhkcpmnaaGreatDoor
open Go.RowKit

theorem Cur.drw {g : Nat} {A : Option Addr} {c : Nat} {zs : List Int} {K : Nat} {w : World} (h : Cur g A c zs K w) : Cur g A c zs K w.drew := h.below (Below.refl _ _).drew
theorem Cur.alo {g : Nat} {A : Option Addr} {c : Nat} {zs : List Int} {K : Nat} {w : World} (h : Cur g A c zs K w) (o : Obj) : Cur g A c zs K (w.alloc o) := h.below ((Below.refl _ _).alloc (Nat.le_refl _) o)
theorem bkn {w : World} {t : TypeId} {cs : Array Value} {q : Nat} (h : w.heap.size = q) : Bk (w.alloc (.cells cs t)) q t cs := h ▸ Bk.new w t cs
def tabN : List Int := [0, 0, 0, 1, 2, 3, 6]
theorem cur_am7 {g q : Nat} {A : Option Addr} {c : Nat} {zs : List Int} {K : Nat} {w : World} (hc : Cur g A c zs K w) (hK : K ≤ 2000000000000000000) (hb : Bk w q 3 #[.int .i64 0, .int .i64 0, .int .i64 0, .int .i64 1, .int .i64 2, .int .i64 3, .int .i64 6]) (hq : q ≠ g) :
    Calls Tryz.prog 38 #[.pointer (some ⟨g, 0, none⟩), .slice (some ⟨q, 0, none⟩) 7 7] w (AmP g A c zs K w tabN) :=
  cur_among g A c zs K _ q 3 tabN hc (by omega) hb hq (by decide) (by decide)
theorem rd_pre {w : World} {q k : Nat} (hb : Bk w q 3 #[.int .i64 1, .int .i64 0, .int .i64 2]) (hk : k < 4) : Rd w w.heap.size (.slice (some ⟨q, 0, none⟩) k 3) ([1, 0, 2].take k : List Int).length (icells .i64 ([1, 0, 2].take k)) := by
  have hl : ([1, 0, 2].take k : List Int).length = k := by rw [List.length_take]; simp; omega
  rw [hl]
  refine ⟨_, _, rfl, by omega, by unfold maxLen; omega, fun j u hu => ⟨q, 0, rfl, hb.lt, ?_⟩⟩
  have e : icells .i64 ([1, 0, 2].take k) = (icells .i64 [1, 0, 2]).take k := by simp [icells, List.map_take]
  rw [e, List.getElem?_take] at hu
  split at hu
  · rw [Nat.zero_add, hb.cell j]
    rw [← hu]; simp [icells]
  · cases hu
def DNeedsP (w : World) (e : Ending) (w' : World) : Prop := ∃ (o n : Int) (u : Value) (l : List Int), e = .returned (.tuple #[.agg #[.int .i64 o, .int .i64 n], u]) ∧ Rd w' w'.heap.size u l.length (icells .i64 l) ∧ Below w.heap.size w w'
set_option maxHeartbeats 6400000 in
theorem spec_DrawNeedsOf (v : Value) (zs : List Int) (w : World) (hr : Rd w w.heap.size v zs.length (icells .u8 zs)) (hz : ∀ z ∈ zs, 0 ≤ z ∧ z ≤ 255) :
    Calls Tryz.prog 16 #[v] w (DNeedsP w) := by
  obtain ⟨A, c, rfl, hc⟩ := cur_start (w := w.alloc (.cells #[.int .i64 0, .int .i64 0] 40)) (hr.alloc _) hz
  rw [World.size_alloc] at hc
  have Hc := hide hc
  have BT := hide ((Bk.new w 40 #[.int .i64 0, .int .i64 0]).alloc (.cells #[.slice A zs.length c, .int .i64 0, .int .u64 0] 48))
  have HB := hide (((Below.refl w.heap.size w).alloc (Nat.le_refl _) (.cells #[.int .i64 0, .int .i64 0] 40)).alloc (by simp) (.cells #[.slice A zs.length c, .int .i64 0, .int .u64 0] 48))
  clear hr hc
  go_enter Tryz.func16, Tryz.ntmps16
  have HdA := hide (Dw.refl (w.heap.size + 1) w); have HdB := hide (Dw.refl (w.heap.size + 1) w); have HdC := hide (Dw.refl (w.heap.size + 1) w)
  go_upto_region 2 with fail
  go_region_with (first
    | (go_at_call_of 39 (Value.int .i64 13); refine (cur_pick (w.heap.size + 1) A c zs 0 _ _ (by repeat (first | with_reducible exact Hc.out | with_reducible refine Cur.drw ?_ | with_reducible refine Cur.alo ?_ _)) (by decide) (by decide)).mono ?_; rintro e w1 ⟨x, rfl, _, hc1, hd1⟩; have HcA := hide hc1; have HdA := hide hd1; have hgA : w.heap.size + 1 < w1.heap.size := hc1.lt; have HbA : Hid (Below w.heap.size w w1) := hide (Below.trans (by repeat (first | with_reducible exact HB.out | with_reducible refine Below.drew ?_ | with_reducible refine Below.alloc ?_ (by first | omega | (simp <;> omega)) _)) (hd1.below (Nat.le_succ _) (by first | omega | (simp <;> omega)))); clear hc1 hd1)
    | (go_at_call 38; refine (cur_am7 (A := A) (c := c) (zs := zs) (K := 0 + 2) (by repeat (first | with_reducible exact HcA.out | with_reducible refine Cur.drw ?_ | with_reducible refine Cur.alo ?_ _)) (by decide) (by repeat (first | with_reducible exact bkn (by simp) | with_reducible exact BT.out | with_reducible refine Bk.drew ?_ | with_reducible refine Bk.alloc ?_ _ | (with_reducible refine HdC.out.bk ?_ (by omega)) | (with_reducible refine HdB.out.bk ?_ (by omega)) | (with_reducible refine HdA.out.bk ?_ (by omega)))) (by omega)).mono ?_; rintro e w2 ⟨n, rfl, _, hc1, hd1⟩; have HcB := hide hc1; have HdB := hide hd1; have hgB : w.heap.size + 1 < w2.heap.size := hc1.lt; have HbB : Hid (Below w.heap.size w w2) := hide (Below.trans (by repeat (first | with_reducible exact HbA.out | with_reducible refine Below.drew ?_ | with_reducible refine Below.alloc ?_ (by first | omega | (simp <;> omega)) _)) (hd1.below (Nat.le_succ _) (by first | omega | (simp <;> omega)))); clear hc1 hd1)
    | (go_at_call 39; refine (cur_pick (w.heap.size + 1) A c zs (0 + 2 + 2) _ _ (by repeat (first | with_reducible exact HcB.out | with_reducible refine Cur.drw ?_ | with_reducible refine Cur.alo ?_ _)) (by decide) (by decide)).mono ?_; rintro e w3 ⟨x4, rfl, hx4, hc1, hd1⟩; obtain ⟨k, rfl, hk⟩ := pick_nat (n := 4) hx4 (by decide); have HdC := hide hd1; have hgC : w.heap.size + 1 < w3.heap.size := hc1.lt; have HbC : Hid (Below w.heap.size w w3) := hide (Below.trans (by repeat (first | with_reducible exact HbB.out | with_reducible refine Below.drew ?_ | with_reducible refine Below.alloc ?_ (by first | omega | (simp <;> omega)) _)) (hd1.below (Nat.le_succ _) (by first | omega | (simp <;> omega)))); clear hc1 hd1 hx4; have T3 : Bk w3 w.heap.size 40 #[.int .i64 0, .int .i64 0] := (by repeat (first | with_reducible exact bkn (by simp) | with_reducible exact BT.out | with_reducible refine Bk.drew ?_ | with_reducible refine Bk.alloc ?_ _ | (with_reducible refine HdC.out.bk ?_ (by omega)) | (with_reducible refine HdB.out.bk ?_ (by omega)) | (with_reducible refine HdA.out.bk ?_ (by omega)))); have k0 := T3.cell 0; have k1 := T3.cell 1; have f0 := T3.frozen 0; have f1 := T3.frozen 1; have kl : w.heap.size < w3.heap.size := T3.lt; have hkI : (k : Int) ≤ 3 := (by omega); have hk0 : (0 : Int) ≤ (k : Int) := (by omega); clear T3))
  all_goals
    have Hs3 := hide ((HbC.out.setCell (p := ⟨w.heap.size, 0, none⟩) (Nat.le_refl _) (.int .i64 x)).setCell (p := ⟨w.heap.size, 1, none⟩) (Nat.le_refl _) (.int .i64 n))
    go_wp2_with fail
    first
      | (refine bodyPost_ret (v := .tuple #[.agg #[.int .i64 x, .int .i64 n], .slice (some ⟨w3.heap.size, 0, none⟩) k 3]) ?_ rfl ?_
         · simp [results, Tryz.results16, go_sem, k0, k1, f0, f1, kl]; done
         · first
           | (refine ⟨x, n, _, _, rfl, rd_pre ?_ hk, ?_⟩
              · first | ((repeat (first | with_reducible exact bkn (by simp) | with_reducible exact BT.out | with_reducible refine Bk.drew ?_ | with_reducible refine Bk.far ?_ (by omega) _ _ | with_reducible refine Bk.alloc ?_ _ | (with_reducible refine HdC.out.bk ?_ (by omega)) | (with_reducible refine HdB.out.bk ?_ (by omega)) | (with_reducible refine HdA.out.bk ?_ (by omega)))); done)
              · first | exact Hs3.out | exact Hs3.out.alloc Hs3.out.size _))
      | (refine bodyPost_ret (v := .tuple #[.agg #[.int .i64 x, .int .i64 n], .slice (some ⟨w2.heap.size, 0, none⟩) k 3]) ?_ rfl ?_
         · simp [results, Tryz.results16, go_sem, k0, k1, f0, f1, kl]; done
         · first
           | (refine ⟨x, n, _, _, rfl, rd_pre ?_ hk, ?_⟩
              · first | ((repeat (first | with_reducible exact bkn (by simp) | with_reducible exact BT.out | with_reducible refine Bk.drew ?_ | with_reducible refine Bk.far ?_ (by omega) _ _ | with_reducible refine Bk.alloc ?_ _ | (with_reducible refine HdC.out.bk ?_ (by omega)) | (with_reducible refine HdB.out.bk ?_ (by omega)) | (with_reducible refine HdA.out.bk ?_ (by omega)))); done)
              · first | exact Hs3.out | exact Hs3.out.alloc Hs3.out.size _))
      | (refine bodyPost_ret (v := .tuple #[.agg #[.int .i64 x, .int .i64 n], .slice (some ⟨w1.heap.size, 0, none⟩) k 3]) ?_ rfl ?_
         · simp [results, Tryz.results16, go_sem, k0, k1, f0, f1, kl]; done
         · first
           | (refine ⟨x, n, _, _, rfl, rd_pre ?_ hk, ?_⟩
              · first | ((repeat (first | with_reducible exact bkn (by simp) | with_reducible exact BT.out | with_reducible refine Bk.drew ?_ | with_reducible refine Bk.far ?_ (by omega) _ _ | with_reducible refine Bk.alloc ?_ _ | (with_reducible refine HdC.out.bk ?_ (by omega)) | (with_reducible refine HdB.out.bk ?_ (by omega)) | (with_reducible refine HdA.out.bk ?_ (by omega)))); done)
              · first | exact Hs3.out | exact Hs3.out.alloc Hs3.out.size _))
      | (refine bodyPost_ret (v := .tuple #[.agg #[.int .i64 x, .int .i64 n], .slice (some ⟨w1.heap.size + 1, 0, none⟩) k 3]) ?_ rfl ?_
         · simp [results, Tryz.results16, go_sem, k0, k1, f0, f1, kl]; done
         · first
           | (refine ⟨x, n, _, _, rfl, rd_pre ?_ hk, ?_⟩
              · first | ((repeat (first | with_reducible exact bkn (by simp) | with_reducible exact BT.out | with_reducible refine Bk.drew ?_ | with_reducible refine Bk.far ?_ (by omega) _ _ | with_reducible refine Bk.alloc ?_ _ | (with_reducible refine HdC.out.bk ?_ (by omega)) | (with_reducible refine HdB.out.bk ?_ (by omega)) | (with_reducible refine HdA.out.bk ?_ (by omega)))); done)
              · first | exact Hs3.out | exact Hs3.out.alloc Hs3.out.size _))
      | (refine bodyPost_ret (v := .tuple #[.agg #[.int .i64 x, .int .i64 n], .slice (some ⟨w.heap.size + 1 + 1, 0, none⟩) k 3]) ?_ rfl ?_
         · simp [results, Tryz.results16, go_sem, k0, k1, f0, f1, kl]; done
         · first
           | (refine ⟨x, n, _, _, rfl, rd_pre ?_ hk, ?_⟩
              · first | ((repeat (first | with_reducible exact bkn (by simp) | with_reducible exact BT.out | with_reducible refine Bk.drew ?_ | with_reducible refine Bk.far ?_ (by omega) _ _ | with_reducible refine Bk.alloc ?_ _ | (with_reducible refine HdC.out.bk ?_ (by omega)) | (with_reducible refine HdB.out.bk ?_ (by omega)) | (with_reducible refine HdA.out.bk ?_ (by omega)))); done)
              · first | exact Hs3.out | exact Hs3.out.alloc Hs3.out.size _))
      | (refine bodyPost_ret (v := .tuple #[.agg #[.int .i64 x, .int .i64 n], .slice (some ⟨w.heap.size + 1 + 1 + 1, 0, none⟩) k 3]) ?_ rfl ?_
         · simp [results, Tryz.results16, go_sem, k0, k1, f0, f1, kl]; done
         · first
           | (refine ⟨x, n, _, _, rfl, rd_pre ?_ hk, ?_⟩
              · first | ((repeat (first | with_reducible exact bkn (by simp) | with_reducible exact BT.out | with_reducible refine Bk.drew ?_ | with_reducible refine Bk.far ?_ (by omega) _ _ | with_reducible refine Bk.alloc ?_ _ | (with_reducible refine HdC.out.bk ?_ (by omega)) | (with_reducible refine HdB.out.bk ?_ (by omega)) | (with_reducible refine HdA.out.bk ?_ (by omega)))); done)
              · first | exact Hs3.out | exact Hs3.out.alloc Hs3.out.size _))
      | fail "no end"
end Go.Proofs.YtheddnjhkcpmnaaGreatDoor
