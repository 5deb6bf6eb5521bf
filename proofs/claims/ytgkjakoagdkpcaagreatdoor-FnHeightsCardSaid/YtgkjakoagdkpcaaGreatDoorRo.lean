
/- spec.rows: the state of its draw. No condition. -/
import Derived.Test.YtgkjakoagdkpcaaGreatDoorLf
import Derived.Test.YtgkjakoagdkpcaaGreatDoorNdCode
set_option linter.unusedSimpArgs false
set_option linter.unusedVariables false
set_option maxRecDepth 100000
namespace Go.Proofs.YtgkjakoagdkpcaaGreatDoor
open Go.RowKit

theorem rcells_set1 : ∀ (e : List R3) (i : Nat) (x : Int), ∃ e' : List R3, e'.length = e.length ∧ (rcells e).set i (.int .i64 x) = rcells e' := by
  intro e
  induction e with
  | nil => intro i x; exact ⟨[], rfl, by simp [rcells]⟩
  | cons t e ih =>
    intro i x
    match i with
    | 0 => exact ⟨⟨x, t.t, t.p⟩ :: e, by simp, rfl⟩
    | 1 => exact ⟨⟨t.f, x, t.p⟩ :: e, by simp, rfl⟩
    | 2 => exact ⟨⟨t.f, t.t, x⟩ :: e, by simp, rfl⟩
    | i + 3 =>
      obtain ⟨e', h1, h2⟩ := ih i x
      refine ⟨t :: e', by simp [h1], ?_⟩
      rw [rcells_cons, rcells_cons, List.set_cons_succ, List.set_cons_succ, List.set_cons_succ, h2]
theorem IRow.first {lo n ic : Nat} {iA : Option Addr} {W : World} (h : IRow lo (.slice iA n ic) W n) (h0 : 1 ≤ n) : ∃ q, iA = some ⟨q, 0, none⟩ ∧ lo ≤ q ∧ q < W.heap.size ∧ n ≤ ic := by
  obtain ⟨css, h1, h2, h3⟩ := h
  rcases h2.2 with ⟨e, h0⟩ | ⟨q, cap, cur, e, hq, hh, hn, _⟩
  · omega
  · cases e; exact ⟨q, rfl, hq, (Array.getElem?_eq_some_iff.1 hh).1, hn⟩
theorem IRow.at_ {lo n ic q x : Nat} {W : World} (h : IRow lo (.slice (some ⟨q, 0, none⟩) n ic) W n) (hx : x < n) : ∃ (P V : Int) (sA : Option Addr) (sc : Nat) (sl : List Int) (iA : Option Addr) (jc : Nat) (il : List P2) (rA : Option Addr) (rc : Nat) (rl : List R3),
    W.cell? ⟨q, x * 5, none⟩ = some (.int .i64 P) ∧ W.cell? ⟨q, x * 5 + 1, none⟩ = some (.int .i64 V) ∧ W.cell? ⟨q, x * 5 + 2, none⟩ = some (.slice sA sl.length sc) ∧ W.cell? ⟨q, x * 5 + 3, none⟩ = some (.slice iA il.length jc) ∧ W.cell? ⟨q, x * 5 + 4, none⟩ = some (.slice rA rl.length rc) ∧ (1 ≤ il.length ∧ il.length ≤ 222) ∧ rl.length ≤ 5 ∧ W.ownsRow lo 82 3 (.slice rA rl.length rc) rl.length (rcells rl) := by
  obtain ⟨css, h1, h2, h3⟩ := h
  have h5 : ∀ x ∈ css, x.length = 5 := fun x hx => (h3 x hx).len
  have hx' : x < css.length := by omega
  obtain ⟨P, V, sA, sc, sl, iA, jc, il, rA, rc, rl, e, hb, o1, o2, o3⟩ := h3 _ (List.getElem_mem hx')
  refine ⟨P, V, sA, sc, sl, iA, jc, il, rA, rc, rl, ?_, ?_, ?_, ?_, ?_, hb.2.1, hb.2.2, o3⟩
  · exact row_cell (j := 0) h2 h5 hx' (by omega) (by rw [e]; rfl)
  · exact row_cell (j := 1) h2 h5 hx' (by omega) (by rw [e]; rfl)
  · exact row_cell (j := 2) h2 h5 hx' (by omega) (by rw [e]; rfl)
  · exact row_cell (j := 3) h2 h5 hx' (by omega) (by rw [e]; rfl)
  · exact row_cell (j := 4) h2 h5 hx' (by omega) (by rw [e]; rfl)
theorem bk_ne {w : World} {lo n size q : Nat} {e t : TypeId} {v : Value} {xs : List Value} {cs : Array Value} (ho : w.ownsRow lo e size v n xs) (hb : Bk w q t cs) (hne : e ≠ t) : v.ownBlock ≠ some q := fun h => by
  rcases ho.2 with ⟨rfl, _⟩ | ⟨g, _, c, rfl, _, h2, _⟩
  · cases h
  · injection h with h; subst h
    rw [show w.heap[_]? = _ from hb] at h2; injection h2 with h2; injection h2 with _ h2 _; exact hne h2.symm
theorem Cur.aloR {g : Nat} {A : Option Addr} {c : Nat} {zs : List Int} {K : Nat} {w : World} (h : Cur g A c zs K w) (o : Obj) : Cur g A c zs K (w.alloc o) := h.below ((Below.refl _ _).alloc (Nat.le_refl _) o)
theorem dw_aloR {g : Nat} {W W' : World} {o : Obj} (hd : Dw g (W.alloc o) W') : Dw g W W' := ((Dw.refl g W).alloc o).trans hd
theorem cur_amL {g : Nat} {A : Option Addr} {c : Nat} {zs : List Int} {K : Nat} {w : World} (hc : Cur g A c zs K w) (hK : K ≤ 2000000000000000000) (l : List Int) (h0 : 0 < l.length) (hl : l.length ≤ 1000000) :
    Calls Tryz.prog 38 #[.pointer (some ⟨g, 0, none⟩), .slice (some ⟨w.heap.size, 0, none⟩) l.length l.length] (w.alloc (.cells (icells .i64 l).toArray 3)) (AmP g A c zs K (w.alloc (.cells (icells .i64 l).toArray 3)) l) :=
  cur_among g A c zs K _ w.heap.size 3 l (hc.below ((Below.refl _ _).alloc (Nat.le_refl _) (.cells (icells .i64 l).toArray 3))) (by omega) (Bk.new w 3 _) (Nat.ne_of_gt hc.lt) h0 hl
/-- the rows under way -/
structure RoS (g : Nat) (A : Option Addr) (c : Nat) (zs : List Int) (w : World) (K : Nat) (v : Value) (rl : List R3) (W : World) : Prop where
  cur : Cur g A c zs K W
  dw : Dw g w W
  hw : w.heap.size = g + 1
  own : W.ownsRow (g + 1) 82 3 v rl.length (rcells rl)
section
variable {g : Nat} {A : Option Addr} {c : Nat} {zs : List Int} {w : World} {K K' : Nat} {v v' : Value} {rl rl' : List R3} {W W' : World}
theorem RoS.step (H : RoS g A c zs w K v rl W) (hc : Cur g A c zs K' W') (hd : Dw g W W') : RoS g A c zs w K' v rl W' := ⟨hc, H.dw.trans hd, H.hw, hd.own H.own (Nat.lt_succ_self _)⟩
theorem RoS.alloc (H : RoS g A c zs w K v rl W) (o : Obj) : RoS g A c zs w K v rl (W.alloc o) := H.step (H.cur.below ((Below.refl _ _).alloc (Nat.le_refl _) o)) ((Dw.refl g W).alloc o)
theorem RoS.drw (H : RoS g A c zs w K v rl W) : RoS g A c zs w K v rl W.drew := H.step (H.cur.below (Below.refl _ _).drew) (.of (Below.refl _ _).drew)
theorem RoS.more (H : RoS g A c zs w K v rl W) (hK : K ≤ K') : RoS g A c zs w K' v rl W := ⟨H.cur.more hK, H.dw, H.hw, H.own⟩
/-- a write in a block that is not the rows' -/
theorem RoS.far (H : RoS g A c zs w K v rl W) {q : Nat} (hq : g < q) (hv : v.ownBlock ≠ some q) (i : Nat) (u : Value) : RoS g A c zs w K v rl (W.setCell ⟨q, i, none⟩ u) := by
  have hb : Below (g + 1) W (W.setCell ⟨q, i, none⟩ u) := (Below.refl _ _).setCell (p := ⟨q, i, none⟩) hq u
  exact ⟨H.cur.keepG2 hb (Nat.lt_succ_self _), H.dw.belowW hb (by rw [H.hw]; exact Nat.le_refl _), H.hw, own_far H.own u fun k hk e => hv (by rw [hk, e])⟩
theorem RoS.far5 {t : TypeId} {cs : Array Value} (H : RoS g A c zs w K v rl W) {q : Nat} (hq : g < q) (hb : Bk W q t cs) (ht : 82 ≠ t) (a0 a1 a2 a3 a4 : Value) : RoS g A c zs w K v rl (((((W.setCell ⟨q, 0, none⟩ a0).setCell ⟨q, 1, none⟩ a1).setCell ⟨q, 2, none⟩ a2).setCell ⟨q, 3, none⟩ a3).setCell ⟨q, 4, none⟩ a4) := by
  have hv := bk_ne H.own hb ht
  exact ((((H.far hq hv 0 a0).far hq hv 1 a1).far hq hv 2 a2).far hq hv 3 a3).far hq hv 4 a4
/-- a number is written into the rows -/
theorem RoS.put {q cap : Nat} (H : RoS g A c zs w K (.slice (some ⟨q, 0, none⟩) rl.length cap) rl W) (i : Nat) (z : Int) : ∃ rl' : List R3, rl'.length = rl.length ∧ RoS g A c zs w K (.slice (some ⟨q, 0, none⟩) rl.length cap) rl' (W.setCell ⟨q, i, none⟩ (.int .i64 z)) := by
  obtain ⟨rl', h1, h2⟩ := rcells_set1 rl i z
  have hq := (H.own.lt q rfl).1
  have hb : Below (g + 1) W (W.setCell ⟨q, i, none⟩ (.int .i64 z)) := (Below.refl _ _).setCell (p := ⟨q, i, none⟩) hq _
  have ho := own_set H.own i (.int .i64 z)
  rw [h2, ← h1] at ho
  refine ⟨rl', h1, ?_⟩
  rw [← h1]
  exact ⟨H.cur.keepG2 hb (Nat.lt_succ_self _), H.dw.belowW hb (by rw [H.hw]; exact Nat.le_refl _), H.hw, ho⟩
theorem RoS.at_ {rA : Option Addr} {rc x : Nat} (H : RoS g A c zs w K (.slice rA rl.length rc) rl W) (hx : x < rl.length) : ∃ (q : Nat) (a b d : Int), rA = some ⟨q, 0, none⟩ ∧ g < q ∧ q < W.heap.size ∧ W.cell? ⟨q, x * 3, none⟩ = some (.int .i64 a) ∧ W.cell? ⟨q, x * 3 + 1, none⟩ = some (.int .i64 b) ∧ W.cell? ⟨q, x * 3 + 2, none⟩ = some (.int .i64 d) ∧ ∀ i, W.frozen? ⟨q, i, none⟩ = false := by
  rcases id H.own.2 with ⟨e, h0⟩ | ⟨q, cap, cur, e, hq, hh, _⟩
  · omega
  · cases e
    obtain ⟨h1, h2, h3⟩ := rcells_get rl x hx
    have hp : ∀ i, ((⟨q, 0, none⟩ : Addr).add i) = ⟨q, i, none⟩ := fun i => by unfold Addr.add; split <;> simp_all
    have hb : Bk W q 82 cur := hh
    have c1 := H.own.cells (g := q) rfl _ _ h1
    have c2 := H.own.cells (g := q) rfl _ _ h2
    have c3 := H.own.cells (g := q) rfl _ _ h3
    rw [hp] at c1 c2 c3
    exact ⟨q, _, _, _, rfl, hq, hb.lt, c1, c2, c3, hb.frozen⟩
theorem RoS.push (H : RoS g A c zs w K v rl W) (ho : W'.ownsRow (g + 1) 82 3 v' rl'.length (rcells rl')) (hg : Gro W W' v v') : RoS g A c zs w K v' rl' W' := by
  have hb := hg.toBelow H.own H.cur.lt
  exact ⟨H.cur.keepG2 hb (Nat.lt_succ_self _), H.dw.belowW hb (by rw [H.hw]; exact Nat.le_refl _), H.hw, ho⟩
end
end Go.Proofs.YtgkjakoagdkpcaaGreatDoor
set_option linter.unusedSimpArgs false
set_option linter.unusedVariables false
set_option maxRecDepth 100000
namespace Go.Proofs.YtgkjakoagdkpcaaGreatDoor
open Go.RowKit

theorem rcells_isI : ∀ (e : List R3), ∀ u ∈ rcells e, isI u := by
  intro e u hu
  obtain ⟨r, _, h⟩ := List.mem_flatMap.1 hu
  simp only [R3.cell, List.mem_cons, List.not_mem_nil, or_false] at h
  rcases h with rfl | rfl | rfl <;> exact ⟨_, rfl⟩
section
variable {t : TypeId} {M lo n : Nat} {w : World} {v : Value}
theorem SlR.trips (h : SlR isIF t 3 M lo w v n) : ∃ e : List R3, e.length = n ∧ Rg w lo w.heap.size v e.length (rcells e) := by
  obtain ⟨A, c, rfl⟩ := h.form
  obtain ⟨hn, A', c', e, h1, h2, hh⟩ := id h
  cases e
  obtain ⟨b, hl, hx⟩ := mkList2 (P := fun i (p : R3) => ∃ q o, A = some ⟨q, o, none⟩ ∧ (lo ≤ q ∧ q < w.heap.size) ∧ w.cell? ⟨q, o + i * 3, none⟩ = some (.int .i64 p.f) ∧ w.cell? ⟨q, o + (i * 3 + 1), none⟩ = some (.int .i64 p.t) ∧ w.cell? ⟨q, o + (i * 3 + 2), none⟩ = some (.int .i64 p.p)) n (fun i hi => by
    obtain ⟨q, o, hA, hlo, hty, hc⟩ := h.at_ hi (by omega)
    obtain ⟨_, c0, z0, rfl⟩ := hc 0 (by omega)
    obtain ⟨_, c1, z1, rfl⟩ := hc 1 (by omega)
    obtain ⟨_, c2, z2, rfl⟩ := hc 2 (by omega)
    refine ⟨⟨z0, z1, z2⟩, q, o * 3, hA, ⟨hlo, hty.lt⟩, ?_, ?_, ?_⟩
    · rw [show o * 3 + i * 3 = (o + i) * 3 + 0 by omega]; exact c0
    · rw [show o * 3 + (i * 3 + 1) = (o + i) * 3 + 1 by omega]; exact c1
    · rw [show o * 3 + (i * 3 + 2) = (o + i) * 3 + 2 by omega]; exact c2)
  refine ⟨b, hl, A, c, by rw [hl], by omega, h2, fun j u hu => ?_⟩
  have hj := (List.getElem?_eq_some_iff.1 hu).1
  rw [rcells_length] at hj
  obtain ⟨q, o, hA, hb, k0, k1, k2⟩ := hx (j / 3) (by omega)
  refine ⟨q, o, hA, hb, ?_⟩
  obtain ⟨g0, g1, g2⟩ := rcells_get b (j / 3) (by omega)
  have hd : j = j / 3 * 3 ∨ j = j / 3 * 3 + 1 ∨ j = j / 3 * 3 + 2 := by omega
  rcases hd with hd | hd | hd
  · rw [← hd] at g0 k0
    rw [g0] at hu; cases hu; exact k0
  · rw [← hd] at g1 k1
    rw [g1] at hu; cases hu; exact k1
  · rw [← hd] at g2 k2
    rw [g2] at hu; cases hu; exact k2
end
/-- a code's field -/
def CdF (M lo : Nat) (w : World) (j : Nat) (u : Value) : Prop := (j ≤ 1 → isI u) ∧ (j = 2 → IntO M lo w u) ∧ (j = 3 → ∃ n, 1 ≤ n ∧ SlR isIF 41 2 222 lo w u n) ∧ (4 ≤ j → ∃ n, SlR isIF 82 3 5 lo w u n)
def ImS (M lo : Nat) (w : World) (v : Value) (n : Nat) : Prop := SlR (CdF M lo) 39 5 5 lo w v n
section
variable {t : TypeId} {M lo n q k g j : Nat} {w w' : World} {u v x : Value}
theorem CdF.int (z : Int) (hj : j ≤ 1) : CdF M lo w j (.int .i64 z) := ⟨fun _ => ⟨z, rfl⟩, fun h => by omega, fun h => by omega, fun h => by omega⟩
theorem CdF.more {M' : Nat} (h : CdF M lo w j u) (hM : M ≤ M') : CdF M' lo w j u := ⟨h.1, fun e => (h.2.1 e).more hM, h.2.2.1, h.2.2.2⟩
theorem ImS.more {M' : Nat} (h : ImS M lo w v n) (hM : M ≤ M') : ImS M' lo w v n := SlR.imp h fun _ _ h => h.more hM
theorem CdF.chg (h : CdF M lo w j u) (hc : Chg w w' q t k x) (hI : t = 3 → isI x) (hN : t = 41 → isI x) (hR : t = 82 → isI x) : CdF M lo w' j u :=
  ⟨h.1, fun e => (h.2.1 e).chg hc hI, fun e => by obtain ⟨n, hn, h⟩ := h.2.2.1 e; exact ⟨n, hn, h.chg hc (fun _ _ h => h) hN⟩, fun e => by obtain ⟨n, h⟩ := h.2.2.2 e; exact ⟨n, h.chg hc (fun _ _ h => h) hR⟩⟩
theorem CdF.dw (h : CdF M lo w j u) (hd : Dw g w w') (hg : g < lo) : CdF M lo w' j u :=
  ⟨h.1, fun e => (h.2.1 e).dw hd hg, fun e => by obtain ⟨n, hn, h⟩ := h.2.2.1 e; exact ⟨n, hn, h.dw hd hg (fun _ _ h => h)⟩, fun e => by obtain ⟨n, h⟩ := h.2.2.2 e; exact ⟨n, h.dw hd hg (fun _ _ h => h)⟩⟩
theorem ImS.chg (h : ImS M lo w v n) (hc : Chg w w' q t k x) (hI : t = 3 → isI x) (hN : t = 41 → isI x) (hR : t = 82 → isI x) (hC : t = 39 → CdF M lo w' (k % 5) x) : ImS M lo w' v n :=
  SlR.chg h hc (fun _ _ h => h.chg hc hI hN hR) hC
theorem ImS.dw (h : ImS M lo w v n) (hd : Dw g w w') (hg : g < lo) : ImS M lo w' v n := SlR.dw h hd hg fun _ _ h => h.dw hd hg
theorem ImS.setN (h : ImS M lo w v n) (ht : Ty w q 41) (k : Nat) (z : Int) : ImS M lo (w.setCell ⟨q, k, none⟩ (.int .i64 z)) v n :=
  h.chg (Chg.set ht k _) (fun _ => ⟨z, rfl⟩) (fun _ => ⟨z, rfl⟩) (fun _ => ⟨z, rfl⟩) (fun e => absurd e (by decide))
theorem ImS.setR (h : ImS M lo w v n) (ht : Ty w q 82) (k : Nat) (z : Int) : ImS M lo (w.setCell ⟨q, k, none⟩ (.int .i64 z)) v n :=
  h.chg (Chg.set ht k _) (fun _ => ⟨z, rfl⟩) (fun _ => ⟨z, rfl⟩) (fun _ => ⟨z, rfl⟩) (fun e => absurd e (by decide))
theorem ImS.setC (h : ImS M lo w v n) (ht : Ty w q 39) (k : Nat) (hx : CdF M lo w (k % 5) x) : ImS M lo (w.setCell ⟨q, k, none⟩ x) v n :=
  have hc := Chg.set ht k x
  h.chg hc (fun e => absurd e (by decide)) (fun e => absurd e (by decide)) (fun e => absurd e (by decide)) (fun _ => hx.chg hc (fun e => absurd e (by decide)) (fun e => absurd e (by decide)) (fun e => absurd e (by decide)))
theorem ImS.pushI (h : ImS M lo w v n) (hg : g < lo) {z : Int} (hc : (∃ q, lo ≤ q ∧ Chg w w' q 3 k (.int .i64 z)) ∨ Below w.heap.size w w') : ImS M lo w' v n := by
  rcases hc with ⟨q, _, hc⟩ | hc
  · exact h.chg hc (fun _ => ⟨z, rfl⟩) (fun _ => ⟨z, rfl⟩) (fun _ => ⟨z, rfl⟩) (fun e => absurd e (by decide))
  · exact h.dw (g := g) (.of hc) hg
end
theorem IRow.shape {lo n : Nat} {w : World} {v : Value} (h : IRow lo v w n) (hn : n ≤ 5) : ImS 4 lo w v n := by
  obtain ⟨css, h1, h2, h3⟩ := h
  have h4 : ∀ x ∈ css, x.length = 5 := fun x hx => (h3 x hx).len
  refine SlR.of_own h2 hn fun i u hu => ?_
  obtain ⟨k, hk, hu⟩ := flat_field h4 (by omega) hu
  obtain ⟨P, V, sA, sc, sl, iA, ic, il, rA, rc, rl, e, ⟨b1, b2, b3⟩, o1, o2, o3⟩ := h3 _ (List.getElem_mem hk)
  rw [e] at hu
  have hm := Nat.mod_lt i (show 0 < 5 by omega)
  generalize i % 5 = j at *
  obtain rfl | rfl | rfl | rfl | rfl : j = 0 ∨ j = 1 ∨ j = 2 ∨ j = 3 ∨ j = 4 := by omega
  · cases hu; exact .int _ (by omega)
  · cases hu; exact .int _ (by omega)
  · cases hu; exact ⟨fun e => by omega, fun _ => ⟨sl, b1, o1⟩, fun e => by omega, fun e => by omega⟩
  · cases hu
    exact ⟨fun e => by omega, fun e => by omega, fun _ => ⟨il.length, b2.1, .of_own o2 b2.2 fun i y hy => pcells_isI _ y (List.mem_of_getElem? hy)⟩, fun e => by omega⟩
  · cases hu
    exact ⟨fun e => by omega, fun e => by omega, fun e => by omega, fun _ => ⟨rl.length, .of_own o3 b3 fun i y hy => rcells_isI _ y (List.mem_of_getElem? hy)⟩⟩
theorem szCodesL_le {B : Nat} : ∀ (l : List CodeM), (∀ s ∈ l, szCodeN s ≤ B) → szCodesL l ≤ l.length * B := by
  intro l
  induction l with
  | nil => intro _; simp [szCodesL]
  | cons s l ih =>
    intro h
    have h1 := h s (by simp)
    have h2 := ih fun x hx => h x (by simp [hx])
    simp only [szCodesL, List.length_cons, Nat.succ_mul]; omega
section
variable {M lo n : Nat} {w : World} {v : Value}
theorem CdF.r (hM : M ≤ 5) {cs : List Value} (hl : cs.length = 5) (h : ∀ k u, cs[k]? = some u → CdF M lo w k u) : ∃ m : CodeM, RCode w lo w.heap.size cs m ∧ szCodeN m ≤ 232 := by
  obtain ⟨a, b, c, d, e, rfl⟩ := five_of hl
  obtain ⟨z0, rfl⟩ := (h 0 a rfl).1 (by omega)
  obtain ⟨z1, rfl⟩ := (h 1 b rfl).1 (by omega)
  obtain ⟨sl, hs, ho⟩ := (h 2 c rfl).2.1 rfl
  obtain ⟨n3, _, h3⟩ := (h 3 d rfl).2.2.1 rfl
  obtain ⟨n4, h4⟩ := (h 4 e rfl).2.2.2 (by omega)
  have hn3 := h3.1; have hn4 := h4.1
  obtain ⟨il, hil, hri⟩ := h3.pairs
  obtain ⟨rl, hrl, hrr⟩ := h4.trips
  exact ⟨⟨z0, z1, sl, il, rl⟩, ⟨c, d, e, rfl, Rg.of_own ho, hri, hrr⟩, by unfold szCodeN; simp only; omega⟩
theorem ImS.r (hM : M ≤ 5) (h : ImS M lo w v n) : ∃ fs : List CodeM, fs.length = n ∧ RL RCode 5 w lo w.heap.size v fs ∧ szCodesN fs ≤ 1500 := by
  have hn := h.1
  obtain ⟨L, hL, hrl, hB⟩ := SlR.rl (R := RCode) (B := fun m => szCodeN m ≤ 232) h (by omega) fun cs hl h => CdF.r hM hl h
  refine ⟨L, hL, hrl, ?_⟩
  have := szCodesL_le L hB
  have h5 : L.length * 232 ≤ 5 * 232 := Nat.mul_le_mul_right _ (by omega)
  unfold szCodesN; omega
end
/-- a code's cells, an instruction's -/
structure CdA (g q B : Nat) (P V : Int) (sv iv rv : Value) (W : World) : Prop where
  gt : g < q
  ty : Ty W q 39
  c0 : W.cell? ⟨q, B, none⟩ = some (.int .i64 P)
  c1 : W.cell? ⟨q, B + 1, none⟩ = some (.int .i64 V)
  c2 : W.cell? ⟨q, B + 2, none⟩ = some sv
  c3 : W.cell? ⟨q, B + 3, none⟩ = some iv
  c4 : W.cell? ⟨q, B + 4, none⟩ = some rv
structure InA (g q B : Nat) (o n : Int) (W : World) : Prop where
  gt : g < q
  ty : Ty W q 41
  c0 : W.cell? ⟨q, B, none⟩ = some (.int .i64 o)
  c1 : W.cell? ⟨q, B + 1, none⟩ = some (.int .i64 n)
section
variable {g q B : Nat} {P V o n : Int} {sv iv rv : Value} {W W' : World}
theorem CdA.dw (h : CdA g q B P V sv iv rv W) (hd : Dw g W W') : CdA g q B P V sv iv rv W' :=
  have hl := h.ty.lt
  ⟨h.gt, h.ty.keep (hd.block q (by have := h.gt; omega) hl), dw_cell hd h.gt hl h.c0, dw_cell hd h.gt hl h.c1, dw_cell hd h.gt hl h.c2, dw_cell hd h.gt hl h.c3, dw_cell hd h.gt hl h.c4⟩
theorem InA.dw (h : InA g q B o n W) (hd : Dw g W W') : InA g q B o n W' :=
  have hl := h.ty.lt
  ⟨h.gt, h.ty.keep (hd.block q (by have := h.gt; omega) hl), dw_cell hd h.gt hl h.c0, dw_cell hd h.gt hl h.c1⟩
theorem CdA.pushI {z : Int} {k : Nat} (H : CdA g q B P V sv iv rv W) (hc : (∃ q, g + 1 ≤ q ∧ Chg W W' q 3 k (.int .i64 z)) ∨ Below W.heap.size W W') : CdA g q B P V sv iv rv W' := by
  have hb : W'.heap[q]? = W.heap[q]? := by
    rcases hc with ⟨q', hq, hc⟩ | hc
    · refine hc.block q (fun e => ?_) H.ty.lt
      subst e; exact absurd (H.ty.inj hc.ty) (by decide)
    · exact hc.block q H.ty.lt
  have hcell : ∀ {i : Nat} {u : Value}, W.cell? ⟨q, i, none⟩ = some u → W'.cell? ⟨q, i, none⟩ = some u := fun h => (World.cell?_of_block hb).trans h
  exact ⟨H.gt, H.ty.keep hb, hcell H.c0, hcell H.c1, hcell H.c2, hcell H.c3, hcell H.c4⟩
end
theorem own_ty {w : World} {base n size q cap : Nat} {e : TypeId} {xs : List Value} (h : w.ownsRow base e size (.slice (some ⟨q, 0, none⟩) n cap) n xs) : Ty w q e := by
  rcases h.2 with ⟨e, _⟩ | ⟨q', c, cur, e, hq, hh, hn, _⟩
  · cases e
  · cases e; exact ⟨cur, hh⟩
theorem IRow.firstI {lo n ic : Nat} {iA : Option Addr} {W : World} (h : IRow lo (.slice iA n ic) W n) (h0 : 1 ≤ n) : ∃ q, iA = some ⟨q, 0, none⟩ ∧ lo ≤ q ∧ q < W.heap.size ∧ n ≤ ic := by
  obtain ⟨css, h1, h2, h3⟩ := h
  rcases h2.2 with ⟨e, h0⟩ | ⟨q, cap, cur, e, hq, hh, hn, _⟩
  · omega
  · cases e; exact ⟨q, rfl, hq, (Array.getElem?_eq_some_iff.1 hh).1, hn⟩
theorem IRow.fn {g n ic q x : Nat} {W : World} (h : IRow (g + 1) (.slice (some ⟨q, 0, none⟩) n ic) W n) (hx : x < n) : ∃ (P V : Int) (sA : Option Addr) (sc : Nat) (sl : List Int) (qi jc : Nat) (il : List P2) (rA : Option Addr) (rc : Nat) (rl : List R3),
    CdA g q (x * 5) P V (.slice sA sl.length sc) (.slice (some ⟨qi, 0, none⟩) il.length jc) (.slice rA rl.length rc) W ∧ sl.length ≤ 4 ∧ (1 ≤ il.length ∧ il.length ≤ 222) ∧ rl.length ≤ 5 ∧
    W.ownsRow (g + 1) 3 1 (.slice sA sl.length sc) sl.length (icells .i64 sl) ∧ W.ownsRow (g + 1) 41 2 (.slice (some ⟨qi, 0, none⟩) il.length jc) il.length (pcells il) ∧ W.ownsRow (g + 1) 82 3 (.slice rA rl.length rc) rl.length (rcells rl) := by
  obtain ⟨css, h1, h2, h3⟩ := h
  have h5 : ∀ x ∈ css, x.length = 5 := fun x hx => (h3 x hx).len
  have hx' : x < css.length := by omega
  obtain ⟨P, V, sA, sc, sl, iA, jc, il, rA, rc, rl, e, ⟨b1, b2, b3⟩, o1, o2, o3⟩ := h3 _ (List.getElem_mem hx')
  obtain ⟨qi, c', e2⟩ := own_some o2 (by omega)
  cases e2
  refine ⟨P, V, sA, sc, sl, qi, jc, il, rA, rc, rl, ⟨(h2.lt q rfl).1, own_ty h2, ?_, ?_, ?_, ?_, ?_⟩, b1, b2, b3, o1, o2, o3⟩
  · exact row_cell (j := 0) h2 h5 hx' (by omega) (by rw [e]; rfl)
  · exact row_cell (j := 1) h2 h5 hx' (by omega) (by rw [e]; rfl)
  · exact row_cell (j := 2) h2 h5 hx' (by omega) (by rw [e]; rfl)
  · exact row_cell (j := 3) h2 h5 hx' (by omega) (by rw [e]; rfl)
  · exact row_cell (j := 4) h2 h5 hx' (by omega) (by rw [e]; rfl)
theorem ins_at {g q c y : Nat} {W : World} {il : List P2} (h : W.ownsRow (g + 1) 41 2 (.slice (some ⟨q, 0, none⟩) il.length c) il.length (pcells il)) (hy : y < il.length) : InA g q (y * 2) il[y].o il[y].n W := by
  obtain ⟨h1, h2⟩ := pcells_get il y hy
  have hp : ∀ i, ((⟨q, 0, none⟩ : Addr).add i) = ⟨q, i, none⟩ := fun i => by unfold Addr.add; split <;> simp_all
  have c1 := h.cells (g := q) rfl _ _ h1
  have c2 := h.cells (g := q) rfl _ _ h2
  rw [hp] at c1 c2
  exact ⟨(h.lt q rfl).1, own_ty h, c1, c2⟩
/-- the state of the draw: the image is of the shape; h: where it is kept -/
structure AiS (M g : Nat) (A : Option Addr) (c : Nat) (zs : List Int) (w : World) (K h : Nat) (pv : Value) (n : Nat) (W : World) : Prop where
  cur : Cur g A c zs K W
  dw : Dw g w W
  hw : w.heap.size = g + 1
  res : Bk W w.heap.size 26 #[.slice none 0 0]
  p : Bk W h 26 #[pv]
  lt : w.heap.size < h
  sh : ImS M (g + 1) W pv n
section
variable {M g : Nat} {A : Option Addr} {c : Nat} {zs : List Int} {w : World} {K K' h : Nat} {pv x : Value} {n q k : Nat} {t : TypeId} {W W' : World}
theorem AiS.step (H : AiS M g A c zs w K h pv n W) (hc : Cur g A c zs K' W') (hd : Dw g W W') : AiS M g A c zs w K' h pv n W' := by
  have := H.hw; have := H.lt
  exact ⟨hc, H.dw.trans hd, H.hw, hd.bk H.res (by omega), hd.bk H.p (by omega), H.lt, H.sh.dw hd (Nat.lt_succ_self _)⟩
theorem AiS.alloc (H : AiS M g A c zs w K h pv n W) (o : Obj) : AiS M g A c zs w K h pv n (W.alloc o) := H.step (H.cur.below ((Below.refl _ _).alloc (Nat.le_refl _) o)) ((Dw.refl g W).alloc o)
theorem AiS.more {M' : Nat} (H : AiS M g A c zs w K h pv n W) (hM : M ≤ M') (hK : K ≤ K') : AiS M' g A c zs w K' h pv n W := ⟨H.cur.more hK, H.dw, H.hw, H.res, H.p, H.lt, H.sh.more hM⟩
theorem AiS.drw (H : AiS M g A c zs w K h pv n W) : AiS M g A c zs w K h pv n W.drew := H.step (H.cur.below (Below.refl _ _).drew) (.of (Below.refl _ _).drew)
theorem AiS.chg {M' : Nat} (H : AiS M g A c zs w K h pv n W) (hc : Chg W W' q t k x) (ht : t ≠ 26) (hq : g < q) (hs : ImS M' (g + 1) W' pv n) : AiS M' g A c zs w K h pv n W' := by
  have hne : ∀ {j : Nat} {cs : Array Value}, Bk W j 26 cs → j ≠ q := fun hb e => by subst e; exact ht (hc.ty.inj ⟨_, hb⟩)
  exact ⟨hc.cur H.cur hq, H.dw.belowW (hc.below (Nat.le_refl _)) (by have := H.hw; omega), H.hw, hc.bk H.res (hne H.res), hc.bk H.p (hne H.p), H.lt, hs⟩
theorem AiS.setN (H : AiS M g A c zs w K h pv n W) (ht : Ty W q 41) (hq : g < q) (k : Nat) (z : Int) : AiS M g A c zs w K h pv n (W.setCell ⟨q, k, none⟩ (.int .i64 z)) := H.chg (Chg.set ht k _) (by decide) hq (H.sh.setN ht k z)
theorem AiS.setR (H : AiS M g A c zs w K h pv n W) (ht : Ty W q 82) (hq : g < q) (k : Nat) (z : Int) : AiS M g A c zs w K h pv n (W.setCell ⟨q, k, none⟩ (.int .i64 z)) := H.chg (Chg.set ht k _) (by decide) hq (H.sh.setR ht k z)
theorem AiS.setC (H : AiS M g A c zs w K h pv n W) (ht : Ty W q 39) (hq : g < q) (k : Nat) (hx : CdF M (g + 1) W (k % 5) x) : AiS M g A c zs w K h pv n (W.setCell ⟨q, k, none⟩ x) := H.chg (Chg.set ht k _) (by decide) hq (H.sh.setC ht k hx)
theorem AiS.pushI (H : AiS M g A c zs w K h pv n W) {z : Int} (hc : (∃ q, g + 1 ≤ q ∧ Chg W W' q 3 k (.int .i64 z)) ∨ Below W.heap.size W W') : AiS M g A c zs w K h pv n W' := by
  have hs := H.sh.pushI (Nat.lt_succ_self g) hc
  rcases hc with ⟨q, hq, hc⟩ | hc
  · exact H.chg hc (by decide) hq hs
  · exact H.step (H.cur.below hc) (.of hc)
end
def AnyIP (g : Nat) (A : Option Addr) (c : Nat) (zs : List Int) (K : Nat) (w : World) (e : Ending) (w' : World) : Prop := ∃ (pA : Option Addr) (pc n : Nat), e = .returned (.agg #[.slice pA n pc]) ∧ (1 ≤ n ∧ n ≤ 5) ∧ ImS 5 (g + 1) w' (.slice pA n pc) n ∧ Cur g A c zs (K + 200020) w' ∧ Dw g w w'
theorem AiS.done {g : Nat} {A : Option Addr} {c : Nat} {zs : List Int} {w W : World} {K h pc n : Nat} {pA : Option Addr} (H : AiS 5 g A c zs w (K + 200020) h (.slice pA n pc) n W) (hn : 1 ≤ n ∧ n ≤ 5) : AnyIP g A c zs K w (.returned (.agg #[.slice pA n pc])) (W.setCell ⟨w.heap.size, 0, none⟩ (.slice pA n pc)) := by
  have hc := Chg.set (x := .slice pA n pc) H.res.ty 0
  have hw := H.hw
  exact ⟨pA, pc, n, rfl, hn, H.sh.chg hc (fun e => absurd e (by decide)) (fun e => absurd e (by decide)) (fun e => absurd e (by decide)) (fun e => absurd e (by decide)), hc.cur H.cur (by omega), H.dw.belowW (hc.below (Nat.le_refl _)) (by omega)⟩
end Go.Proofs.YtgkjakoagdkpcaaGreatDoor
