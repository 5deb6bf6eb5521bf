
/- spec.rows: the state of its draw. No condition. -/
import Derived.Test.YtheddnjhkcpmnaaLf5
set_option linter.unusedSimpArgs false
set_option linter.unusedVariables false
set_option maxRecDepth 100000
namespace Go.Proofs.Ytheddnjhkcpmnaa
open Go.RowKit

theorem rcells_set1 : ∀ (e : List R3) (i : Nat) (x : Int), ∃ e' : List R3, e'.length = e.length ∧ (rcells e).set i (.int .i64 x) = rcells e' := by
  intro e
  induction e with
  | nil => intro i x; exact ⟨[], rfl, by simp [rcells]⟩
  | cons t e ih =>
    intro i x
    match i with
    | 0 => exact ⟨⟨x, t.t, t.p⟩ :: e, by simp, rfl⟩
    | 1 => exact ⟨⟨t.f, x, t.p⟩ :: e, by simp, rfl⟩
    | 2 => exact ⟨⟨t.f, t.t, x⟩ :: e, by simp, rfl⟩
    | i + 3 =>
      obtain ⟨e', h1, h2⟩ := ih i x
      refine ⟨t :: e', by simp [h1], ?_⟩
      rw [rcells_cons, rcells_cons, List.set_cons_succ, List.set_cons_succ, List.set_cons_succ, h2]
theorem IRow.first {lo n ic : Nat} {iA : Option Addr} {W : World} (h : IRow lo (.slice iA n ic) W n) (h0 : 1 ≤ n) : ∃ q, iA = some ⟨q, 0, none⟩ ∧ lo ≤ q ∧ q < W.heap.size ∧ n ≤ ic := by
  obtain ⟨css, h1, h2, h3⟩ := h
  rcases h2.2 with ⟨e, h0⟩ | ⟨q, cap, cur, e, hq, hh, hn, _⟩
  · omega
  · cases e; exact ⟨q, rfl, hq, (Array.getElem?_eq_some_iff.1 hh).1, hn⟩
theorem IRow.at_ {lo n ic q x : Nat} {W : World} (h : IRow lo (.slice (some ⟨q, 0, none⟩) n ic) W n) (hx : x < n) : ∃ (P V : Int) (sA : Option Addr) (sc : Nat) (sl : List Int) (iA : Option Addr) (jc : Nat) (il : List P2) (rA : Option Addr) (rc : Nat) (rl : List R3),
    W.cell? ⟨q, x * 5, none⟩ = some (.int .i64 P) ∧ W.cell? ⟨q, x * 5 + 1, none⟩ = some (.int .i64 V) ∧ W.cell? ⟨q, x * 5 + 2, none⟩ = some (.slice sA sl.length sc) ∧ W.cell? ⟨q, x * 5 + 3, none⟩ = some (.slice iA il.length jc) ∧ W.cell? ⟨q, x * 5 + 4, none⟩ = some (.slice rA rl.length rc) ∧ (1 ≤ il.length ∧ il.length ≤ 222) ∧ rl.length ≤ 5 ∧ W.ownsRow lo 72 3 (.slice rA rl.length rc) rl.length (rcells rl) := by
  obtain ⟨css, h1, h2, h3⟩ := h
  have h5 : ∀ x ∈ css, x.length = 5 := fun x hx => (h3 x hx).len
  have hx' : x < css.length := by omega
  obtain ⟨P, V, sA, sc, sl, iA, jc, il, rA, rc, rl, e, hb, o1, o2, o3⟩ := h3 _ (List.getElem_mem hx')
  refine ⟨P, V, sA, sc, sl, iA, jc, il, rA, rc, rl, ?_, ?_, ?_, ?_, ?_, hb.2.1, hb.2.2, o3⟩
  · exact row_cell (j := 0) h2 h5 hx' (by omega) (by rw [e]; rfl)
  · exact row_cell (j := 1) h2 h5 hx' (by omega) (by rw [e]; rfl)
  · exact row_cell (j := 2) h2 h5 hx' (by omega) (by rw [e]; rfl)
  · exact row_cell (j := 3) h2 h5 hx' (by omega) (by rw [e]; rfl)
  · exact row_cell (j := 4) h2 h5 hx' (by omega) (by rw [e]; rfl)
theorem bk_ne {w : World} {lo n size q : Nat} {e t : TypeId} {v : Value} {xs : List Value} {cs : Array Value} (ho : w.ownsRow lo e size v n xs) (hb : Bk w q t cs) (hne : e ≠ t) : v.ownBlock ≠ some q := fun h => by
  rcases ho.2 with ⟨rfl, _⟩ | ⟨g, _, c, rfl, _, h2, _⟩
  · cases h
  · injection h with h; subst h
    rw [show w.heap[_]? = _ from hb] at h2; injection h2 with h2; injection h2 with _ h2 _; exact hne h2.symm
theorem Cur.aloR {g : Nat} {A : Option Addr} {c : Nat} {zs : List Int} {K : Nat} {w : World} (h : Cur g A c zs K w) (o : Obj) : Cur g A c zs K (w.alloc o) := h.below ((Below.refl _ _).alloc (Nat.le_refl _) o)
theorem dw_aloR {g : Nat} {W W' : World} {o : Obj} (hd : Dw g (W.alloc o) W') : Dw g W W' := ((Dw.refl g W).alloc o).trans hd
theorem cur_amL {g : Nat} {A : Option Addr} {c : Nat} {zs : List Int} {K : Nat} {w : World} (hc : Cur g A c zs K w) (hK : K ≤ 2000000000000000000) (l : List Int) (h0 : 0 < l.length) (hl : l.length ≤ 1000000) :
    Calls Try.prog 112 #[.pointer (some ⟨g, 0, none⟩), .slice (some ⟨w.heap.size, 0, none⟩) l.length l.length] (w.alloc (.cells (icells .i64 l).toArray 3)) (AmP g A c zs K (w.alloc (.cells (icells .i64 l).toArray 3)) l) :=
  cur_among g A c zs K _ w.heap.size 3 l (hc.below ((Below.refl _ _).alloc (Nat.le_refl _) (.cells (icells .i64 l).toArray 3))) (by omega) (Bk.new w 3 _) (Nat.ne_of_gt hc.lt) h0 hl
/-- the rows under way -/
structure RoS (g : Nat) (A : Option Addr) (c : Nat) (zs : List Int) (w : World) (K : Nat) (v : Value) (rl : List R3) (W : World) : Prop where
  cur : Cur g A c zs K W
  dw : Dw g w W
  hw : w.heap.size = g + 1
  own : W.ownsRow (g + 1) 72 3 v rl.length (rcells rl)
section
variable {g : Nat} {A : Option Addr} {c : Nat} {zs : List Int} {w : World} {K K' : Nat} {v v' : Value} {rl rl' : List R3} {W W' : World}
theorem RoS.step (H : RoS g A c zs w K v rl W) (hc : Cur g A c zs K' W') (hd : Dw g W W') : RoS g A c zs w K' v rl W' := ⟨hc, H.dw.trans hd, H.hw, hd.own H.own (Nat.lt_succ_self _)⟩
theorem RoS.alloc (H : RoS g A c zs w K v rl W) (o : Obj) : RoS g A c zs w K v rl (W.alloc o) := H.step (H.cur.below ((Below.refl _ _).alloc (Nat.le_refl _) o)) ((Dw.refl g W).alloc o)
theorem RoS.drw (H : RoS g A c zs w K v rl W) : RoS g A c zs w K v rl W.drew := H.step (H.cur.below (Below.refl _ _).drew) (.of (Below.refl _ _).drew)
theorem RoS.more (H : RoS g A c zs w K v rl W) (hK : K ≤ K') : RoS g A c zs w K' v rl W := ⟨H.cur.more hK, H.dw, H.hw, H.own⟩
/-- a write in a block that is not the rows' -/
theorem RoS.far (H : RoS g A c zs w K v rl W) {q : Nat} (hq : g < q) (hv : v.ownBlock ≠ some q) (i : Nat) (u : Value) : RoS g A c zs w K v rl (W.setCell ⟨q, i, none⟩ u) := by
  have hb : Below (g + 1) W (W.setCell ⟨q, i, none⟩ u) := (Below.refl _ _).setCell (p := ⟨q, i, none⟩) hq u
  exact ⟨H.cur.keepG2 hb (Nat.lt_succ_self _), H.dw.belowW hb (by rw [H.hw]; exact Nat.le_refl _), H.hw, own_far H.own u fun k hk e => hv (by rw [hk, e])⟩
theorem RoS.far5 {t : TypeId} {cs : Array Value} (H : RoS g A c zs w K v rl W) {q : Nat} (hq : g < q) (hb : Bk W q t cs) (ht : 72 ≠ t) (a0 a1 a2 a3 a4 : Value) : RoS g A c zs w K v rl (((((W.setCell ⟨q, 0, none⟩ a0).setCell ⟨q, 1, none⟩ a1).setCell ⟨q, 2, none⟩ a2).setCell ⟨q, 3, none⟩ a3).setCell ⟨q, 4, none⟩ a4) := by
  have hv := bk_ne H.own hb ht
  exact ((((H.far hq hv 0 a0).far hq hv 1 a1).far hq hv 2 a2).far hq hv 3 a3).far hq hv 4 a4
/-- a number is written into the rows -/
theorem RoS.put {q cap : Nat} (H : RoS g A c zs w K (.slice (some ⟨q, 0, none⟩) rl.length cap) rl W) (i : Nat) (z : Int) : ∃ rl' : List R3, rl'.length = rl.length ∧ RoS g A c zs w K (.slice (some ⟨q, 0, none⟩) rl.length cap) rl' (W.setCell ⟨q, i, none⟩ (.int .i64 z)) := by
  obtain ⟨rl', h1, h2⟩ := rcells_set1 rl i z
  have hq := (H.own.lt q rfl).1
  have hb : Below (g + 1) W (W.setCell ⟨q, i, none⟩ (.int .i64 z)) := (Below.refl _ _).setCell (p := ⟨q, i, none⟩) hq _
  have ho := own_set H.own i (.int .i64 z)
  rw [h2, ← h1] at ho
  refine ⟨rl', h1, ?_⟩
  rw [← h1]
  exact ⟨H.cur.keepG2 hb (Nat.lt_succ_self _), H.dw.belowW hb (by rw [H.hw]; exact Nat.le_refl _), H.hw, ho⟩
theorem RoS.at_ {rA : Option Addr} {rc x : Nat} (H : RoS g A c zs w K (.slice rA rl.length rc) rl W) (hx : x < rl.length) : ∃ (q : Nat) (a b d : Int), rA = some ⟨q, 0, none⟩ ∧ g < q ∧ q < W.heap.size ∧ W.cell? ⟨q, x * 3, none⟩ = some (.int .i64 a) ∧ W.cell? ⟨q, x * 3 + 1, none⟩ = some (.int .i64 b) ∧ W.cell? ⟨q, x * 3 + 2, none⟩ = some (.int .i64 d) ∧ ∀ i, W.frozen? ⟨q, i, none⟩ = false := by
  rcases id H.own.2 with ⟨e, h0⟩ | ⟨q, cap, cur, e, hq, hh, _⟩
  · omega
  · cases e
    obtain ⟨h1, h2, h3⟩ := rcells_get rl x hx
    have hp : ∀ i, ((⟨q, 0, none⟩ : Addr).add i) = ⟨q, i, none⟩ := fun i => by unfold Addr.add; split <;> simp_all
    have hb : Bk W q 72 cur := hh
    have c1 := H.own.cells (g := q) rfl _ _ h1
    have c2 := H.own.cells (g := q) rfl _ _ h2
    have c3 := H.own.cells (g := q) rfl _ _ h3
    rw [hp] at c1 c2 c3
    exact ⟨q, _, _, _, rfl, hq, hb.lt, c1, c2, c3, hb.frozen⟩
theorem RoS.push (H : RoS g A c zs w K v rl W) (ho : W'.ownsRow (g + 1) 72 3 v' rl'.length (rcells rl')) (hg : Gro W W' v v') : RoS g A c zs w K v' rl' W' := by
  have hb := hg.toBelow H.own H.cur.lt
  exact ⟨H.cur.keepG2 hb (Nat.lt_succ_self _), H.dw.belowW hb (by rw [H.hw]; exact Nat.le_refl _), H.hw, ho⟩
end
end Go.Proofs.Ytheddnjhkcpmnaa
